/- What the claim needs of: WS4 WS5 WS8. -/
import Derived.Test.YthcgihgajdjfoaaGreatDoorV16
import Derived.Test.YthcgihgajdjfoaaGreatDoorV22
import Derived.Test.YthcgihgajdjfoaaGreatDoorV10
import Derived.Deep.RegionHeld3
namespace Go.Proofs.YthcgihgajdjfoaaGreatDoor
open Go.RowKit Go.Sort
def verV (v : Ver3) : Value := .agg #[.int .i64 v.1, .int .i64 v.2.1, .int .i64 v.2.2]
def bestF (rp : List UInt8) (V : List Mod) (p : List UInt8) : Option Value := (bestV rp V p).map verV
theorem bestF_same {rp : List UInt8} {V : List Mod} {m : Mod} (h : ∀ p, bestV rp (V ++ [m]) p = bestV rp V p) : bestF rp (V ++ [m]) = bestF rp V := by
 funext p
 unfold bestF
 rw [h]
theorem bestF_put {rp : List UInt8} {V : List Mod} {m : Mod} (h : bestV rp (V ++ [m]) m.1 = some m.2) : (fun x => if x = m.1 then some (verV m.2) else bestF rp V x) = bestF rp (V ++ [m]) := by
 funext p
 unfold bestF
 by_cases hp : p = m.1
 ·subst hp
  rw [if_pos rfl, h]
  rfl
 ·rw [if_neg hp, bestV_snoc, if_neg (fun hc => hp hc.1.symm)]
theorem verZero (w : World) : (zeroValue 24).run Tryz.prog w = .ok (.agg #[.int .i64 0, .int .i64 0, .int .i64 0]) w := Tryz.zeroValue24 w
def RetListS (w : World) (R : Regy) (root : Mod) (l : List Mod) (e : Ending) (w' : World) : Prop :=
 ∃ (S : List Mod) (q : Bool) (A : Option Addr) (c : Nat), e = .returned (.tuple #[.slice A ((topL root.1 S).length + 1) c, .bool q]) ∧ S.Nodup ∧ (∀ m, m ∈ S ↔ Reach R l m) ∧ (q = true ↔ ∀ m, Reach R l m → m.1 = root.1 ∨ hasR R m = true) ∧
   (topL root.1 S).length + 1 ≤ c ∧ Sl w' w'.heap.size 4 encM A (root :: msort (topL root.1 S)) ∧ Below w.heap.size w w'
set_option maxRecDepth 100000 in
set_option maxHeartbeats 4000000 in
theorem list_any (br nr : Nat) (Y : List ManW) (y0 : ManW) (w : World) (hm : OMap KM w br nr (findF Y)) (hY : ∀ y ∈ Y, ManOk w w.heap.size y) (hYl : Y.length ≤ 100) (h0 : ManOk w w.heap.size y0) :
  Calls Tryz.prog 69 #[.map (some br), .agg #[.string ⟨y0.1.1.toArray⟩, .int .i64 y0.1.2.1, .int .i64 y0.1.2.2.1, .int .i64 y0.1.2.2.2, .slice y0.2.1 y0.2.2.2.length y0.2.2.1]] w (RetListS w (regW Y) y0.1 y0.2.2.2) := by
 obtain ⟨rm, A0, c0, l0⟩ := y0
 obtain ⟨h0a, h0b, h0c⟩ := h0
 simp only at h0a h0b h0c ⊢
 have hb0 : Below w.heap.size w (w.alloc (.cells #[.string ⟨rm.1.toArray⟩, .int .i64 rm.2.1, .int .i64 rm.2.2.1, .int .i64 rm.2.2.2, .slice A0 l0.length c0] 29)) := (Below.refl _ _).alloc (Nat.le_refl _) _
 have q0 := Blk.new w 29 #[.string ⟨rm.1.toArray⟩, .int .i64 rm.2.1, .int .i64 rm.2.2.1, .int .i64 rm.2.2.2, .slice A0 l0.length c0]
 have cN0 := needed_any br nr Y A0 c0 l0 rm.1 (w.alloc (.cells #[.string ⟨rm.1.toArray⟩, .int .i64 rm.2.1, .int .i64 rm.2.2.1, .int .i64 rm.2.2.2, .slice A0 l0.length c0] 29)) (hm.below hb0) (fun y hy => ((hY y hy).keep hb0).more hb0.size) hYl ((h0a.below hb0).more hb0.size) h0b (fun m hm => h0c m (by simp [hm]))
 have HRok := Lib.hid (show ∀ m, Reach (regW Y) l0 m → okB m from fun m h => by
  rcases List.mem_append.1 h.univ with h1 | h1
  ·exact h0c m (by simp [h1])
  ·obtain ⟨x, hx, hmx⟩ := List.mem_flatMap.1 h1
   obtain ⟨y, hy, rfl⟩ := List.mem_map.1 hx
   exact (hY y hy).2.2 m (List.mem_cons_of_mem _ hmx))
 have HYB := Lib.hid (show ∀ x ∈ regW Y, x.2.length ≤ 100 from fun x hx => by
  obtain ⟨y, hy, rfl⟩ := List.mem_map.1 hx
  exact (hY y hy).2.1)
 unfold RetNeed at cN0
 rw [World.size_alloc] at cN0
 have cN := Lib.hid cN0
 have Q0 := Lib.hid q0
 have HB0 := Lib.hid hb0
 have hmm := @run_makeMap Tryz.prog
 clear hm hY h0a h0c cN0 q0 hb0
 generalize hQ : RetListS w (regW Y) rm l0 = Q
 go_enter Tryz.func69, Tryz.ntmps69
 go_wp2_with fail
 refine cN.out.mono ?_
 rintro e w1 ⟨S, q, n, rfl, hnd, hre, hn, hM1, hq, hb1⟩
 have HB1 := Lib.hid (HB0.out.trans (hb1.mono (Nat.le_succ _)))
 have Q1 := Lib.hid (Q0.out.keep (hb1.mono (by simp)))
 have HND := Lib.hid hnd
 have HRE := Lib.hid hre
 have HQ := Lib.hid hq
 have hz1 := hb1.size
 rw [World.size_alloc] at hz1
 have hlt1 : w.heap.size + 1 < w1.heap.size := hM1.lt
 have hM2 := hM1.alloc (.map #[] 0)
 have M2 := Lib.hid hM2
 have K2 := Lib.hid (show OMap KS (w1.alloc (.map #[] 0)) w1.heap.size 0 (bestF rm.1 []) from (OMap.made KS w1).congr (fun a _ => rfl))
 have HB2 := Lib.hid (HB1.out.alloc HB1.out.size (.map #[] 0))
 have Q2 := Lib.hid (Q1.out.keep ((Below.refl _ _).alloc (Nat.le_refl _) (.map #[] 0)))
 have hz2 : (w1.alloc (.map #[] 0)).heap.size = w1.heap.size + 1 := by simp
 clear hnd hre hq hM1 hM2 hb1 cN
 obtain ⟨w3, cnt, hrun3, hR3, hg3, hz3, hcn⟩ := M2.out.range Tryz.underlying136
 have R3 := Lib.hid (ORange.congr (S' := fun m => decide (m ∈ S ∧ m ∉ ([] : List Mod))) hR3 (fun a => by unfold seenM; by_cases h : a ∈ S <;> simp [h]))
 have K3 := Lib.hid (K2.out.kept hg3 (by simp))
 have HB3 := Lib.hid (HB2.out.grown hg3 HB2.out.size (by simp))
 have Q3 := Lib.hid (show Blk w3 w.heap.size 29 #[.string ⟨rm.1.toArray⟩, .int .i64 rm.2.1, .int .i64 rm.2.2.1, .int .i64 rm.2.2.2, .slice A0 l0.length c0] from (hg3.block w.heap.size (by omega) (by simp)).trans Q2.out)
 rw [hz2] at hz3
 clear hR3 hg3 M2 K2 HB2 Q2
 go_wp2_with fail
 go_loopg [10] cnt (fun g v wr => ∃ (V : List Mod) (kk : Nat), kk + g ≤ cnt ∧ Hid (∀ m ∈ V, m ∈ S) ∧ Hid (ORange KM wr (w.heap.size + 1) (w1.heap.size + 1) n (seenM S) (fun m => decide (m ∈ S ∧ m ∉ V)) g) ∧ Hid (OMap KS wr w1.heap.size kk (bestF rm.1 V)) ∧ Hid (Blk wr w.heap.size 29 #[.string ⟨rm.1.toArray⟩, .int .i64 rm.2.1, .int .i64 rm.2.2.1, .int .i64 rm.2.2.2, .slice A0 l0.length c0]) ∧ Hid (Below w.heap.size w wr) ∧ w1.heap.size + 2 ≤ wr.heap.size)
 case atStart => exact ⟨[], 0, by omega, Lib.hid (by simp), by rw [hz2] at R3; exact R3, K3, Q3, HB3, by omega⟩
 case round =>
  obtain ⟨V, kk, hkg, HV, HR, HK, HQ1, HB, hzr⟩ := hrel
  rcases HR.out.next 0 with ⟨hg0, hl, hrun⟩ | ⟨m, v, w4, cnt', hok, hSm, hf, hrun, hR4, hlt4, hg4, hz4, hen⟩
  ·have hVS : ∀ m, m ∈ V ↔ m ∈ S := fun m => ⟨HV.out m, fun hm => by
    have h := hl m (HRok.out m ((HRE.out m).1 hm)).ok
    by_cases hmV : m ∈ V
    ·exact hmV
    ·rw [decide_eq_true (show m ∈ S ∧ m ∉ V from ⟨hm, hmV⟩)] at h
     cases h⟩
   have x0 := HQ1.out.cell 0
   have x1 := HQ1.out.cell 1
   have x2 := HQ1.out.cell 2
   have x3 := HQ1.out.cell 3
   simp at x0 x1 x2 x3
   have hA0 := fun base => Acc.marked wr #[.string ⟨rm.1.toArray⟩, .int .i64 rm.2.1, .int .i64 rm.2.2.1, .int .i64 rm.2.2.2] base 26 4 1 (0, 0) rfl
   have hbA : Below wr.heap.size wr (wr.alloc (.cells #[.string ⟨rm.1.toArray⟩, .int .i64 rm.2.1, .int .i64 rm.2.2.1, .int .i64 rm.2.2.2] 26)) := (Below.refl _ _).alloc (Nat.le_refl _) _
   obtain ⟨D, hown, htell⟩ := HK.out.below hbA
   have hkk : kk ≤ 1200000 := by omega
   have hDs := hown.size_le
   have cS0 := sortedB_any w1.heap.size kk D Rv _ hown (by unfold maxLen; omega) (by omega)
   simp only [World.size_alloc] at cS0
   have cK := Lib.hid (fun W => keysB_any (some w1.heap.size) W)
   obtain ⟨hk1, hk2, hk3⟩ := strKeys_spec hown htell
   have HD := Lib.hid htell
   have HA0 := Lib.hid hA0
   have HBA := Lib.hid hbA
   have cS := Lib.hid cS0
   have HVS := Lib.hid hVS
   have HK1 := Lib.hid hk1
   have HK2 := Lib.hid hk2
   have HK3 := Lib.hid hk3
   clear hl htell hA0 hbA cS0 hVS hk1 hk2 hk3 hDs hown HR
   go_wp2_with fail
   refine (cK.out _).mono ?_
   rintro e w5 ⟨rfl, rfl⟩
   go_wp2_with fail
   refine cS.out.mono ?_
   rintro e w6 ⟨v6, ss, rfl, hperm, hrow, _, hb6⟩
   have HB6 := Lib.hid (show Below wr.heap.size wr w6 from (HBA.out.alloc HBA.out.size (.cells #[.map (some w1.heap.size)] 143)).trans (hb6.mono (by omega)))
   have HA6 := Lib.hid (((HA0.out w6.heap.size).alloc (.cells #[.map (some w1.heap.size)] 143)).below (by simpa using hb6))
   obtain ⟨A6, c6, rfl⟩ := Acc.shape (.inl hrow)
   obtain ⟨J, hJ⟩ : ∃ J, J = ss.mergeSort (fun x y => decide (x ≤ y)) := ⟨_, rfl⟩
   rw [← hJ] at hrow
   have hJl : ss.length = J.length := by rw [hJ, List.length_mergeSort]
   rw [hJl] at hrow ⊢
   obtain ⟨_, hSJ⟩ := Acc.strs_ (l := J) (.inl hrow)
   have hJmem : ∀ p, p ∈ J ↔ p ∈ ss := fun p => by rw [hJ]; exact (List.mergeSort_perm _ _).mem_iff
   have hssm : ∀ p, p ∈ ss ↔ p ∈ strKeys D := fun p => hperm.mem_iff
   have hJb : ∀ p ∈ J, p.length ≤ maxLen ∧ ∃ u, bestV rm.1 V p = some u := fun p hp => by
    have h1 := (hssm p).1 ((hJmem p).1 hp)
    have h2 := HK2.out p h1
    have h3 := (HK3.out p h2).1 h1
    unfold bestF at h3
    cases hb : bestV rm.1 V p with
    | none => rw [hb] at h3; cases h3
    | some u => exact ⟨h2, u, rfl⟩
   have hfin := keys_top rm.1 V S ss HVS.out HND.out (hperm.nodup_iff.2 HK1.out) (fun p hp => by
    obtain ⟨_, u, hu⟩ := hJb p ((hJmem p).2 hp)
    rw [hu]; rfl) (fun m hm hb => by
    have hml := (HRok.out m ((HRE.out m).1 (HV.out m hm))).1
    have h1 := (HK3.out m.1 (by unfold maxLen; omega)).2 (by unfold bestF; rw [Option.isSome_map]; exact hb)
    exact (hssm m.1).2 h1)
   rw [← hJ] at hfin
   have hJl2 : J.length = (topL rm.1 S).length := by
    have := congrArg List.length hfin
    rwa [List.length_map, msort_len] at this
   have hJ12 : J.length ≤ 1200000 := by
    have h1 : (topL rm.1 S).length ≤ S.length := List.length_filter_le _ _
    have h2 := nodup_len S (univ (regW Y) l0) HND.out fun x hx => ((HRE.out x).1 hx).univ
    have h3 := univ_len (regW Y) l0 (by simpa [regW] using hYl) HYB.out
    omega
   have HFIN := Lib.hid hfin
   have HJ2 := Lib.hid hJl2
   have HJB := Lib.hid hJb
   have HSJ := Lib.hid hSJ
   have K6 := Lib.hid (HK.out.below HB6.out)
   have HB62 := Lib.hid (HB.out.trans (HB6.out.mono HB.out.size))
   have hs6 := HB6.out.size
   have hz6 := HB62.out.size
   clear hrow hperm hJ hJl hSJ hJmem hssm hJb hfin hJl2 hb6 cS cK HK HBA HA0
   go_wp2_with fail
   go_loopw [12, 68] (fun v i wx => ∃ k : Nat, k ≤ J.length ∧ i = .int .i64 (k : Nat) ∧ Acc wx w6.heap.size 26 4 v (1 + k) ((rm :: (J.take k).map fun p => (p, (bestV rm.1 V p).getD (0, 0, 0))).flatMap encM) ∧ Below w6.heap.size w6 wx) (fun _ i _ => J.length - (intOf i).toNat)
   case atStart => exact ⟨0, Nat.zero_le _, rfl, HA6.out, Below.refl _ _⟩
   case round =>
    obtain ⟨k, hk, rfl, hacc, hbx⟩ := hrel
    have hbxz := hbx.size
    obtain ⟨Av, cv, rfl⟩ := hacc.shape
    by_cases hlt : k < J.length
    ·have hlt' : (k : Int) < (J.length : Int) := by omega
     obtain ⟨bj, offj, hAj, hbj, g0⟩ := (HSJ.out.below hbx).str hlt
     obtain ⟨hpl, u, hu⟩ := HJB.out J[k] (List.getElem_mem hlt)
     have HT := Lib.hid (show ((rm :: (J.take (k + 1)).map fun p => (p, (bestV rm.1 V p).getD (0, 0, 0))).flatMap encM) = ((rm :: (J.take k).map fun p => (p, (bestV rm.1 V p).getD (0, 0, 0))).flatMap encM) ++ [.string ⟨(J[k]).toArray⟩, .int .i64 u.1, .int .i64 u.2.1, .int .i64 u.2.2] by
      rw [List.take_succ_eq_append_getElem hlt, List.map_append, ← List.cons_append, List.flatMap_append]
      congr 1
      simp only [List.map_cons, List.map_nil, hu, Option.getD_some]
      rfl)
     have hlk := (K6.out.below hbx).look Tryz.underlying143 (verZero _) J[k] hpl
     unfold bestF at hlk
     rw [hu] at hlk
     generalize J[k] = p at g0 hlk HT
     have hlk' : (Instr.lookup 143 (.map (some w1.heap.size)) (.string ⟨p.toArray⟩) false).run Tryz.prog wr = .ok (.agg #[.int .i64 u.1, .int .i64 u.2.1, .int .i64 u.2.2]) wr := hlk
     subst hAj
     have b0 : 1 + k + 1 ≤ maxLen := by unfold maxLen; omega
     have b1 : (1 + k + 1) * 40 ≤ 140737488355328 := by omega
     clear hlk hu hpl
     go_wp2_with (at_builtin; refine wpList_app _ rfl (.tmp 72) (.tmp 78) 27 rfl w6.heap.size 26 4 40 elMod (.slice Av (1 + k) cv) (1 + k) _ rfl (hacc.alloc _) _ 1 _ _ rfl (Src.lit _ 4 _ _ 1 rfl) (by simp [Value.oneCell']) b0 b1 (by simp; omega) ?_; intro v' w7 hacc7 _ hb7 _ _)
     go_roundw
     case rel => exact ⟨k + 1, by omega, by go_num, by rw [HT.out]; simpa [Nat.add_assoc] using hacc7, (hbx.alloc hbxz _).trans hb7⟩
     case measure => simp [intOf]; omega
    ·obtain rfl : k = J.length := by omega
     rw [List.take_of_length_le (Nat.le_refl _), HFIN.out] at hacc
     obtain ⟨hn, hSl⟩ := hacc.sl encM_len (by decide)
     have hcap := hacc.le_cap
     have HSl := Lib.hid hSl
     clear hSl hn
     go_wp2
     rw [← hQ]
     have e1 : 1 + J.length = (topL rm.1 S).length + 1 := by rw [HJ2.out, Nat.add_comm]
     exact ⟨S, q, Av, cv, by rw [← e1]; rfl, HND.out, HRE.out, HQ.out, by omega, HSl.out, HB62.out.trans (hbx.mono hz6)⟩
  ·have hv : v = .bool true := by
    unfold seenM at hf
    split at hf
    ·exact (Option.some.inj hf).symm
    ·cases hf
   subst hv
   obtain ⟨hmS, hmV⟩ := of_decide_eq_true hSm
   have hrun' : (Instr.next (.pointer (some ⟨w1.heap.size + 1, 0, none⟩)) false 0).run Tryz.prog wr = .ok (.tuple #[.bool true, .agg #[.string ⟨m.1.toArray⟩, .int .i64 m.2.1, .int .i64 m.2.2.1, .int .i64 m.2.2.2], .bool true]) w4 := hrun
   have hen' : (Instr.entry (.pointer (some ⟨w1.heap.size + 1, 0, none⟩))).run Tryz.prog w4 = .ok (.tuple #[.agg #[.string ⟨m.1.toArray⟩, .int .i64 m.2.1, .int .i64 m.2.2.1, .int .i64 m.2.2.2], .bool true]) w4 := hen
   have R4 := Lib.hid (ORange.congr (S' := fun x => decide (x ∈ S ∧ x ∉ V ++ [m])) hR4 (fun x => by
    by_cases hx : x = m
    ·subst hx; simp
    ·by_cases h1 : x ∈ S <;> by_cases h2 : x ∈ V <;> simp [hx, h1, h2]))
   have K4 := Lib.hid (HK.out.kept hg4 (by simp))
   have HB4 := Lib.hid (HB.out.grown hg4 HB.out.size (by intro k hk; injection hk with hk; omega))
   have Q4 := Lib.hid (show Blk w4 w.heap.size 29 #[.string ⟨rm.1.toArray⟩, .int .i64 rm.2.1, .int .i64 rm.2.2.1, .int .i64 rm.2.2.2, .slice A0 l0.length c0] from (hg4.block w.heap.size (by omega) (by intro e; injection e with e; omega)).trans HQ1.out)
   have HV4 := Lib.hid (show ∀ x ∈ V ++ [m], x ∈ S from fun x hx => by
    rcases List.mem_append.1 hx with h1 | h1
    ·exact HV.out x h1
    ·obtain rfl : x = m := by simpa using h1
     exact hmS)
   have hml := (HRok.out m ((HRE.out m).1 hmS)).1
   have hsl : KS.ok m.1 := by show m.1.length ≤ maxLen; unfold maxLen; omega
   have hlk := (K4.out.alloc (.cells #[.string ⟨m.1.toArray⟩, .int .i64 m.2.1, .int .i64 m.2.2.1, .int .i64 m.2.2.2] 26)).look_ok Tryz.underlying143 (verZero _) m.1 hsl
   have HSN := Lib.hid (bestV_snoc rm.1 V m)
   have HSL := Lib.hid hsl
   have y0 := cell_keep_alloc (.cells #[.string ⟨m.1.toArray⟩, .int .i64 m.2.1, .int .i64 m.2.2.1, .int .i64 m.2.2.2] 26) (Q4.out.cell 0 : _ = some (.string ⟨rm.1.toArray⟩))
   have hzr4 : w1.heap.size + 2 ≤ w4.heap.size := by omega
   clear hrun hen hR4 hg4 hf HR HK HQ1 HB hsl hSm hz4
   unfold bestF at hlk
   by_cases hmr : m.1 = rm.1
   ·have hbn : bestV rm.1 V m.1 = none := by
     cases hb : bestV rm.1 V m.1 with
     | none => rfl
     | some u => exact absurd hmr ((bestV_iff rm.1 V m.1 u).1 hb).1
    rw [hbn] at hlk
    have hlk' : (Instr.lookup 143 (.map (some w1.heap.size)) (.string ⟨m.1.toArray⟩) true).run Tryz.prog (w4.alloc (.cells #[.string ⟨m.1.toArray⟩, .int .i64 m.2.1, .int .i64 m.2.2.1, .int .i64 m.2.2.2] 26)) = .ok (.tuple #[.agg #[.int .i64 0, .int .i64 0, .int .i64 0], .bool false]) (w4.alloc (.cells #[.string ⟨m.1.toArray⟩, .int .i64 m.2.1, .int .i64 m.2.2.1, .int .i64 m.2.2.2] 26)) := hlk
    have hp1 : (m.1 == rm.1) = true := by rw [hmr]; exact beq_self_eq_true _
    have hp2 : (m.1 != rm.1) = false := by rw [hmr]; simp
    have HF := Lib.hid (bestF_same (rp := rm.1) (V := V) (m := m) (fun p => by rw [HSN.out, if_neg (fun h => h.2 (by rw [← h.1]; exact hmr))]))
    have y0a := cell_keep_alloc (.cells #[.int .i64 0, .int .i64 0, .int .i64 0] 24) y0
    have hb5 := Lib.hid (show Below w4.heap.size w4 ((w4.alloc (.cells #[.string ⟨m.1.toArray⟩, .int .i64 m.2.1, .int .i64 m.2.2.1, .int .i64 m.2.2.2] 26)).alloc (.cells #[.int .i64 0, .int .i64 0, .int .i64 0] 24)) from ((Below.refl _ _).alloc (Nat.le_refl _) _).alloc (by simp) _)
    clear hlk hbn hmr HSN
    go_wp2
    go_roundg cnt'
    case measure => exact hlt4
    case rel => exact ⟨V ++ [m], kk, by omega, HV4, Lib.hid (R4.out.below hb5.out), Lib.hid (by rw [HF.out]; exact K4.out.below hb5.out), Lib.hid (Q4.out.keep hb5.out), Lib.hid (HB4.out.trans (hb5.out.mono HB4.out.size)), by have := hb5.out.size; omega⟩
   ·have hp1 : (m.1 == rm.1) = false := beq_eq_false_iff_ne.2 hmr
    have hp2 : (m.1 != rm.1) = true := bne_iff_ne.2 hmr
    have HMR := Lib.hid hmr
    have hkk : kk < maxLen := by unfold maxLen; omega
    clear hmr
    cases hbv : bestV rm.1 V m.1 with
    | none =>
      rw [hbv] at hlk
      have hlk' : (Instr.lookup 143 (.map (some w1.heap.size)) (.string ⟨m.1.toArray⟩) true).run Tryz.prog (w4.alloc (.cells #[.string ⟨m.1.toArray⟩, .int .i64 m.2.1, .int .i64 m.2.2.1, .int .i64 m.2.2.2] 26)) = .ok (.tuple #[.agg #[.int .i64 0, .int .i64 0, .int .i64 0], .bool false]) (w4.alloc (.cells #[.string ⟨m.1.toArray⟩, .int .i64 m.2.1, .int .i64 m.2.2.1, .int .i64 m.2.2.2] 26)) := hlk
      have HF := Lib.hid (bestF_put (rp := rm.1) (V := V) (m := m) (by rw [HSN.out, if_pos ⟨rfl, HMR.out⟩, hbv]))
      have y0a := cell_keep_alloc (.cells #[.int .i64 0, .int .i64 0, .int .i64 0] 24) y0
      have hb5 := Lib.hid (show Below w4.heap.size w4 ((w4.alloc (.cells #[.string ⟨m.1.toArray⟩, .int .i64 m.2.1, .int .i64 m.2.2.1, .int .i64 m.2.2.2] 26)).alloc (.cells #[.int .i64 0, .int .i64 0, .int .i64 0] 24)) from ((Below.refl _ _).alloc (Nat.le_refl _) _).alloc (by simp) _)
      have hs5 := hb5.out.size
      have K5 := K4.out.below hb5.out
      obtain ⟨w7, hput, hK7, hg7⟩ := K5.put Tryz.underlying143 hkk m.1 HSL.out (verV m.2)
      rw [HF.out] at hK7
      have hput' : (Instr.mapUpdate 143 (.map (some w1.heap.size)) (.string ⟨m.1.toArray⟩) (.agg #[.int .i64 m.2.1, .int .i64 m.2.2.1, .int .i64 m.2.2.2])).run Tryz.prog ((w4.alloc (.cells #[.string ⟨m.1.toArray⟩, .int .i64 m.2.1, .int .i64 m.2.2.1, .int .i64 m.2.2.2] 26)).alloc (.cells #[.int .i64 0, .int .i64 0, .int .i64 0] 24)) = .ok () w7 := hput
      have K7 := Lib.hid hK7
      have R7 := Lib.hid ((R4.out.below hb5.out).kept hg7 (by simp; omega) (by simp))
      have Q7 := Lib.hid (show Blk w7 w.heap.size 29 #[.string ⟨rm.1.toArray⟩, .int .i64 rm.2.1, .int .i64 rm.2.2.1, .int .i64 rm.2.2.2, .slice A0 l0.length c0] from (hg7.block w.heap.size (by omega) (by intro e; injection e with e; omega)).trans (Q4.out.keep hb5.out))
      have HB7 := Lib.hid ((HB4.out.trans (hb5.out.mono HB4.out.size)).grown hg7 (by omega) (by intro k hk; injection hk with hk; omega))
      have hs7 := hg7.size
      clear hlk hbv HSN hput hK7 hg7 K5
      go_wp2
      go_roundg cnt'
      case measure => exact hlt4
      case rel => exact ⟨V ++ [m], kk + 1, by omega, HV4, R7, K7, Q7, HB7, by omega⟩
    | some u =>
      rw [hbv] at hlk
      have hlk' : (Instr.lookup 143 (.map (some w1.heap.size)) (.string ⟨m.1.toArray⟩) true).run Tryz.prog (w4.alloc (.cells #[.string ⟨m.1.toArray⟩, .int .i64 m.2.1, .int .i64 m.2.2.1, .int .i64 m.2.2.2] 26)) = .ok (.tuple #[.agg #[.int .i64 u.1, .int .i64 u.2.1, .int .i64 u.2.2], .bool true]) (w4.alloc (.cells #[.string ⟨m.1.toArray⟩, .int .i64 m.2.1, .int .i64 m.2.2.1, .int .i64 m.2.2.2] 26)) := hlk
      have HBV := Lib.hid hbv
      have y0a := cell_keep_alloc (.cells #[.int .i64 u.1, .int .i64 u.2.1, .int .i64 u.2.2] 24) y0
      have hb5 := Lib.hid (show Below w4.heap.size w4 ((w4.alloc (.cells #[.string ⟨m.1.toArray⟩, .int .i64 m.2.1, .int .i64 m.2.2.1, .int .i64 m.2.2.2] 26)).alloc (.cells #[.int .i64 u.1, .int .i64 u.2.1, .int .i64 u.2.2] 24)) from ((Below.refl _ _).alloc (Nat.le_refl _) _).alloc (by simp) _)
      have X5 := Lib.hid ((Blk.new w4 26 #[.string ⟨m.1.toArray⟩, .int .i64 m.2.1, .int .i64 m.2.2.1, .int .i64 m.2.2.2]).keep ((Below.refl _ _).alloc (Nat.le_refl _) (.cells #[.int .i64 u.1, .int .i64 u.2.1, .int .i64 u.2.2] 24)))
      have cC0 := fun W => Compare_any m.2.1 m.2.2.1 m.2.2.2 u.1 u.2.1 u.2.2 W
      have hvc : vcmp m.2.1 m.2.2.1 m.2.2.2 u.1 u.2.1 u.2.2 = vcmpV m.2 u := rfl
      rw [hvc] at cC0
      have HSN2 := Lib.hid (show ∀ p, bestV rm.1 (V ++ [m]) p = if m.1 = p ∧ p ≠ rm.1 then (match bestV rm.1 V p with | none => some m.2 | some v => if 0 < vcmpV m.2 v then some m.2 else some v) else bestV rm.1 V p from HSN.out)
      obtain ⟨d, hd⟩ : ∃ d, d = vcmpV m.2 u := ⟨_, rfl⟩
      rw [← hd] at cC0
      have HD := Lib.hid hd
      have cC := Lib.hid cC0
      have hs5 := hb5.out.size
      clear hlk hbv HSN hvc cC0 hd
      go_wp2_with fail
      refine (cC.out _).mono ?_
      rintro e w8 ⟨rfl, hb8⟩
      have b8 := hb8.toBelow
      have hs8 := b8.size
      have Q8 := Lib.hid ((Q4.out.keep hb5.out).keep b8)
      have K8 := (K4.out.below hb5.out).below b8
      have R8 := Lib.hid ((R4.out.below hb5.out).below b8)
      have HB8 := Lib.hid ((HB4.out.trans (hb5.out.mono HB4.out.size)).trans (b8.mono (Nat.le_trans HB4.out.size hs5)))
      have X8 := X5.out.keep b8
      have x0 := X8.cell 0
      have x1 := X8.cell 1
      have x2 := X8.cell 2
      have x3 := X8.cell 3
      simp at x0 x1 x2 x3
      clear hb8 b8 X8 X5 cC y0 y0a
      by_cases hd0 : 0 < d
      ·have HF := Lib.hid (bestF_put (rp := rm.1) (V := V) (m := m) (by rw [HSN2.out, if_pos ⟨rfl, HMR.out⟩, HBV.out]; simp only; rw [if_pos (by rw [← HD.out]; exact hd0)]))
       obtain ⟨w9, hput, hK9, hg9⟩ := K8.put Tryz.underlying143 hkk m.1 HSL.out (verV m.2)
       rw [HF.out] at hK9
       have hput' : (Instr.mapUpdate 143 (.map (some w1.heap.size)) (.string ⟨m.1.toArray⟩) (.agg #[.int .i64 m.2.1, .int .i64 m.2.2.1, .int .i64 m.2.2.2])).run Tryz.prog w8 = .ok () w9 := hput
       have K9 := Lib.hid hK9
       have R9 := Lib.hid (R8.out.kept hg9 (by simp; omega) (by simp))
       have Q9 := Lib.hid (show Blk w9 w.heap.size 29 #[.string ⟨rm.1.toArray⟩, .int .i64 rm.2.1, .int .i64 rm.2.2.1, .int .i64 rm.2.2.2, .slice A0 l0.length c0] from (hg9.block w.heap.size (by omega) (by intro e; injection e with e; omega)).trans Q8.out)
       have HB9 := Lib.hid (HB8.out.grown hg9 (by omega) (by intro k hk; injection hk with hk; omega))
       have hs9 := hg9.size
       clear hput hK9 hg9 K8
       go_wp2
       go_roundg cnt'
       case measure => exact hlt4
       case rel => exact ⟨V ++ [m], kk + 1, by omega, HV4, R9, K9, Q9, HB9, by omega⟩
      ·have HF := Lib.hid (bestF_same (rp := rm.1) (V := V) (m := m) (fun p => by
        rw [HSN2.out]
        split
        ·rename_i h
         obtain ⟨rfl, h2⟩ := h
         rw [HBV.out]
         simp only
         rw [if_neg (by rw [← HD.out]; exact hd0)]
        ·rfl))
       have K8' := Lib.hid K8
       clear K8
       go_wp2
       go_roundg cnt'
       case measure => exact hlt4
       case rel => exact ⟨V ++ [m], kk, by omega, HV4, R8, Lib.hid (by rw [HF.out]; exact K8'.out), Q8, HB8, by omega⟩
end Go.Proofs.YthcgihgajdjfoaaGreatDoor
namespace Go.Proofs.YthcgihgajdjfoaaGreatDoor
open Go.RowKit Go.Sort
theorem below_step {w W W' : World} (k : Below W.heap.size W W') (h : Below w.heap.size w W) : Below w.heap.size w W' := h.trans (k.mono h.size)
theorem below_stepD {w W W' : World} (k : Below W.heap.size W.drew W') (h : Below w.heap.size w W) : Below w.heap.size w W' := h.drew.trans (k.mono h.size)
def RetB (w : World) (r : List Mod × Int) (e : Ending) (w' : World) : Prop :=
 ∃ A c, e = .returned (.tuple #[.slice A r.1.length c, .int .i64 r.2]) ∧ r.1.length ≤ c ∧ Sl w' w'.heap.size 4 encM A r.1 ∧ Below w.heap.size w w'
theorem retB_nil {w w' : World} {r : List Mod × Int} {n : Int} (h : r = ([], n)) (hb : Below w.heap.size w w') : RetB w r (.returned (.tuple #[.slice none 0 0, .int .i64 n])) w' := by
 subst h
 exact ⟨none, 0, rfl, Nat.le_refl _, Sl.nil_, hb⟩
theorem retB_some {w w' : World} {r : List Mod × Int} {n : Nat} {L : List Mod} {A : Option Addr} {c : Nat} (h : r = (L, 0)) (hn : n = L.length) (hc : n ≤ c) (hS : Sl w' w'.heap.size 4 encM A L) (hb : Below w.heap.size w w') : RetB w r (.returned (.tuple #[.slice A n c, .int .i64 0])) w' := by
 subst h hn
 exact ⟨A, c, rfl, hc, hS, hb⟩
def manA (m : Mod) (A : Option Addr) (n c : Nat) : Array Value := #[.string ⟨m.1.toArray⟩, .int .i64 m.2.1, .int .i64 m.2.2.1, .int .i64 m.2.2.2, .slice A n c]
def ManC (W : World) (g : Nat) (m : Mod) (A : Option Addr) (n c : Nat) : Prop :=
 W.cell? ⟨g, 0, none⟩ = some (.string ⟨m.1.toArray⟩) ∧ W.cell? ⟨g, 1, none⟩ = some (.int .i64 m.2.1) ∧ W.cell? ⟨g, 2, none⟩ = some (.int .i64 m.2.2.1) ∧ W.cell? ⟨g, 3, none⟩ = some (.int .i64 m.2.2.2) ∧ W.cell? ⟨g, 4, none⟩ = some (.slice A n c)
theorem manC {W : World} {g : Nat} {m : Mod} {A : Option Addr} {n c : Nat} (h : Blk W g 29 (manA m A n c)) : ManC W g m A n c :=
 ⟨h.cell 0, h.cell 1, h.cell 2, h.cell 3, h.cell 4⟩
set_option maxRecDepth 100000 in
set_option maxHeartbeats 4000000 in
theorem BuildList_any (A : Option Addr) (c : Nat) (Y : List ManW) (y0 : ManW) (w : World) (hY : RegOk w w.heap.size A Y) (h0 : ManOk w w.heap.size y0) (hG : Glob w) :
  Calls Tryz.prog 28 #[.slice A Y.length c, .agg #[.string ⟨y0.1.1.toArray⟩, .int .i64 y0.1.2.1, .int .i64 y0.1.2.2.1, .int .i64 y0.1.2.2.2, .slice y0.2.1 y0.2.2.2.length y0.2.2.1]] w (RetB w (buildP (regW Y) y0.1 y0.2.2.2)) := by
 obtain ⟨rm, A0, c0, l0⟩ := y0
 simp only
 have HY := Lib.hid hY
 have H0 := Lib.hid h0
 have HG := Lib.hid hG
 have hYl := hY.2.2
 have Q0 := Lib.hid (Blk.new w 29 (manA rm A0 l0.length c0))
 have HB0 := Lib.hid (show Below w.heap.size w (w.alloc (.cells #[.string ⟨rm.1.toArray⟩, .int .i64 rm.2.1, .int .i64 rm.2.2.1, .int .i64 rm.2.2.2, .slice A0 l0.length c0] 29)) from (Below.refl _ _).alloc (Nat.le_refl _) _)
 have cC0 := fun W (hW : Below w.heap.size w W) => selCheck_any A c Y W (HY.out.step hW) (HG.out.keep hW)
 have cM0 := fun W (hW : Below w.heap.size w W) => Check_any rm A0 c0 l0 W ((H0.out.1.below hW).more hW.size) (by have := H0.out.2.1; simp only at this; omega) (fun x hx => by have := (H0.out.2.2 x hx).1; unfold maxLen; omega) (HG.out.keep hW)
 obtain ⟨r, hr⟩ : ∃ r, r = buildP (regW Y) rm l0 := ⟨_, rfl⟩
 rw [← hr]
 unfold buildP at hr
 have hnd := fun h => (checkR_ok (R := regW Y) h).2
 generalize checkR (regW Y) = e1 at cC0 hr hnd
 generalize mcheck rm l0 = e2 at cM0 hr
 have cC := Lib.hid cC0
 have cM := Lib.hid cM0
 have HR := Lib.hid hr
 clear hY h0 hG cC0 cM0 hr
 generalize hQ : RetB w r = Q
 by_cases he1 : e1 = 0
 ·subst he1
  have HND := Lib.hid (show (Y.map (·.1)).Nodup by have := hnd rfl; unfold regW at this; rw [List.map_map] at this; exact this)
  have HR1 := Lib.hid (HR.out.trans (if_pos rfl))
  clear hnd HR
  by_cases he2 : e2 = 0
  ·subst he2
   have HR2 := Lib.hid (HR1.out.trans (if_pos rfl))
   clear HR1
   go_enter Tryz.func28, Tryz.ntmps28
   go_wp2_with fail
   refine (cC.out _ HB0.out).mono ?_
   rintro e w1 ⟨rfl, hb1⟩
   have HB1 := Lib.hid (HB0.out.trans (hb1.mono HB0.out.size))
   have Q1 := Lib.hid (Q0.out.keep hb1)
   obtain ⟨y0, y1, y2, y3, y4⟩ := manC Q1.out
   clear hb1 cC
   go_wp2_with fail
   refine (cM.out _ HB1.out).mono ?_
   rintro e w2 ⟨rfl, hb2⟩
   have HB2 := Lib.hid (HB1.out.trans (hb2.mono HB1.out.size))
   have Q2 := Lib.hid (Q1.out.keep hb2)
   clear hb2 cM y0 y1 y2 y3 y4
   obtain ⟨z0, z1, z2, z3, z4⟩ := manC Q2.out
   have hB2 := HB2.out
   have cI := Lib.hid (fun W (hW : Below w.heap.size w W) => selIndex_any A c Y W (HY.out.step hW) HND.out)
   have cL := Lib.hid (fun W b n (hW : Below w.heap.size w W) (hm : OMap KM W b n (findF Y)) => list_any b n Y (rm, A0, c0, l0) W hm (fun y hy => ((HY.out.2.1 y hy).keep hW).more hW.size) hYl ((H0.out.keep hW).more hW.size))
   go_upto_region 7 with fail
   go_region_held3 (fun W => Below w.heap.size w W ∧ W.cell? ⟨w.heap.size, 0, none⟩ = some (.string ⟨rm.1.toArray⟩) ∧ W.cell? ⟨w.heap.size, 1, none⟩ = some (.int .i64 rm.2.1) ∧ W.cell? ⟨w.heap.size, 2, none⟩ = some (.int .i64 rm.2.2.1) ∧ W.cell? ⟨w.heap.size, 3, none⟩ = some (.int .i64 rm.2.2.2) ∧ W.cell? ⟨w.heap.size, 4, none⟩ = some (.slice A0 l0.length c0))
    (first | (simp; done) | (go_split_ands; (repeat' apply And.intro) <;> (first | assumption | (apply cell_keep; assumption; assumption) | exact Below.refl _ _ | (apply below_step; assumption; assumption) | exact Below.drew (by assumption) | (apply below_stepD; assumption; assumption))))
    (first
     | (go_at_call 68; refine (cI.out _ (And.left (by assumption))).mono ?_; rintro e w3 ⟨rfl, hm3, hb3⟩)
     | (go_at_call 69; refine (cL.out _ _ _ (And.left (by assumption)) (by first | assumption | exact OMap.below (by assumption) (Below.refl _ _).drew)).mono ?_; rintro e w4 ⟨S, q, A4, c4, rfl, hSn, hSr, hq, hc4, hS4, hb4⟩))
   rename_i hHeld
   have HBf := Lib.hid (And.left hHeld)
   have HS4 := Lib.hid hS4
   have HLP := Lib.hid (listP_eq (root := rm) hSn hSr)
   have HKN := Lib.hid (show knownB (regW Y) l0 rm.1 = q by
    rw [Bool.eq_iff_iff, knownB_iff]
    exact hq.symm)
   clear hm3 hb3 hSn hSr hq hS4 hb4 hHeld cI cL
   cases q
   ·have HR3 := Lib.hid (HR2.out.trans (if_neg (by rw [HKN.out]; simp)))
    go_wp2
    rw [← hQ]
    exact retB_nil HR3.out HBf.out
   ·have HR3 := Lib.hid (HR2.out.trans (if_pos HKN.out))
    go_wp2
    rw [← hQ]
    exact retB_some HR3.out (by rw [← HLP.out, List.length_cons, msort_len]) hc4 (by rw [← HLP.out]; exact HS4.out) HBf.out
  ·have he : (e2 != 0) = true := by simpa using he2
   have HR2 := Lib.hid (HR1.out.trans (if_neg he2))
   clear HR1 he2
   go_enter Tryz.func28, Tryz.ntmps28
   go_wp2_with fail
   refine (cC.out _ HB0.out).mono ?_
   rintro e w1 ⟨rfl, hb1⟩
   have HB1 := Lib.hid (HB0.out.trans (hb1.mono HB0.out.size))
   have Q1 := Lib.hid (Q0.out.keep hb1)
   obtain ⟨y0, y1, y2, y3, y4⟩ := manC Q1.out
   clear hb1 cC
   go_wp2_with fail
   refine (cM.out _ HB1.out).mono ?_
   rintro e w2 ⟨rfl, hb2⟩
   have HB2 := Lib.hid (HB1.out.trans (hb2.mono HB1.out.size))
   clear hb2 cM y0 y1 y2 y3 y4
   go_wp2
   rw [← hQ]
   exact retB_nil HR2.out HB2.out
 ·have he : (e1 != 0) = true := by simpa using he1
  have HR1 := Lib.hid (HR.out.trans (if_neg he1))
  clear HR he1 hnd
  go_enter Tryz.func28, Tryz.ntmps28
  go_wp2_with fail
  refine (cC.out _ HB0.out).mono ?_
  rintro e w1 ⟨rfl, hb1⟩
  have HB1 := Lib.hid (HB0.out.trans (hb1.mono HB0.out.size))
  clear hb1 cC
  go_wp2
  rw [← hQ]
  exact retB_nil HR1.out HB1.out
end Go.Proofs.YthcgihgajdjfoaaGreatDoor
namespace Go.Proofs.YthcgihgajdjfoaaGreatDoor
open Go.RowKit Go.Sort
def modA (m : Mod) : Array Value := #[.string ⟨m.1.toArray⟩, .int .i64 m.2.1, .int .i64 m.2.2.1, .int .i64 m.2.2.2]
def ModC (W : World) (g : Nat) (m : Mod) : Prop :=
 W.cell? ⟨g, 0, none⟩ = some (.string ⟨m.1.toArray⟩) ∧ W.cell? ⟨g, 1, none⟩ = some (.int .i64 m.2.1) ∧ W.cell? ⟨g, 2, none⟩ = some (.int .i64 m.2.2.1) ∧ W.cell? ⟨g, 3, none⟩ = some (.int .i64 m.2.2.2)
theorem modC {W : World} {g : Nat} {m : Mod} (h : Blk W g 26 (modA m)) : ModC W g m := ⟨h.cell 0, h.cell 1, h.cell 2, h.cell 3⟩
end Go.Proofs.YthcgihgajdjfoaaGreatDoor
