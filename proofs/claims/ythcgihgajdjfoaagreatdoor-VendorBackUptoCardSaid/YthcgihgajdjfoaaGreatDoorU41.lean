/- What the claim needs of: IN. -/
import Derived.Test.YthcgihgajdjfoaaGreatDoorU39
import Derived.Test.YthcgihgajdjfoaaGreatDoorU40
namespace Go.Proofs.YthcgihgajdjfoaaGreatDoor
open Go.RowKit Go.Sort
def okE (e : EntV) : Prop := e.1.1.length ≤ 60 ∧ vok e.1.2.1 e.1.2.2.1 e.1.2.2.2 = true
theorem okI_small {x : Int} (h0 : 0 ≤ x) (h1 : x ≤ 9999) : okI x := by
  unfold okI
  simp [Lit.wf, IntKind.min, IntKind.max, IntKind.bits, IntKind.signed]
  omega
theorem okE.mod {e : EntV} (h : okE e) : okMod e.1 := by
  obtain ⟨h1, h2⟩ := h
  unfold vok at h2
  simp only [Bool.and_eq_true, decide_eq_true_eq] at h2
  exact ⟨by unfold maxLen; omega, okI_small h2.1.1.1 h2.1.1.2, okI_small h2.1.2.1 h2.1.2.2, okI_small h2.2.1 h2.2.2⟩
theorem entryP_ok {s : List UInt8} {e : EntV} (h : entryP s = some e) : okE e := by
  unfold entryP at h
  split at h
  · rename_i a b c heq
    split at h
    · rename_i hc
      injection h with h
      subst h
      obtain ⟨h1, h2, _⟩ := hc
      refine ⟨?_, ?_⟩
      · unfold pathOk at h1
        simp only [Bool.and_eq_true, decide_eq_true_eq] at h1
        exact h1.1
      · unfold verr at h2
        cases hv : vparse b with
        | none => rw [hv] at h2; cases h2
        | some v =>
          have := (vparse_some hv).2
          unfold vver
          rw [hv]
          exact this
    · cases h
  · cases h
theorem mcmp_trans {a b c : Mod} (h1 : mcmp a b < 0) (h2 : mcmp b c < 0) : mcmp a c < 0 := by
  have := mlt_swo.trans a b c (by unfold ltOf; exact decide_eq_true h1) (by unfold ltOf; exact decide_eq_true h2)
  unfold ltOf at this
  exact of_decide_eq_true this
theorem unl_inv : ∀ (ls : List (List UInt8)) (out : List EntV), (∀ e ∈ out, okE e) → (out.map (·.1)).Pairwise (fun a b => mcmp a b < 0) → (∀ e ∈ (unlL out ls).1, okE e) ∧ ((unlL out ls).1.map (·.1)).Pairwise (fun a b => mcmp a b < 0) ∧ (unlL out ls).1.length ≤ out.length + ls.length
  | [], out, h1, h2 => ⟨h1, h2, Nat.le_refl _⟩
  | [x], out, h1, h2 => by
    unfold unlL
    split
    · exact ⟨h1, h2, Nat.le_succ _⟩
    · exact ⟨by simp, by simp, by simp⟩
  | x :: y :: r, out, h1, h2 => by
    unfold unlL
    split
    · rename_i e he
      split
      · rename_i hf
        have hp : ((out ++ [e]).map (·.1)).Pairwise (fun a b => mcmp a b < 0) := by
          rw [List.map_append, List.pairwise_append]
          refine ⟨h2, by simp, fun a ha b hb => ?_⟩
          simp only [List.map_cons, List.map_nil, List.mem_singleton] at hb
          subst hb
          obtain ⟨z, hz, rfl⟩ := List.mem_map.1 ha
          unfold fitsE at hf
          cases hl : out.getLast? with
          | none =>
            rw [List.getLast?_eq_none_iff] at hl
            subst hl
            cases hz
          | some q =>
            rw [hl] at hf
            have hq : mcmp q.1 e.1 < 0 := by simpa using hf
            obtain ⟨pre, hpre⟩ : ∃ pre, out = pre ++ [q] := by
              rw [List.getLast?_eq_some_iff] at hl
              exact hl
            rw [hpre] at hz h2
            rcases List.mem_append.1 hz with h | h
            · rw [List.map_append, List.pairwise_append] at h2
              exact mcmp_trans (h2.2.2 _ (List.mem_map.2 ⟨z, h, rfl⟩) q.1 (by simp)) hq
            · rw [List.mem_singleton.1 h]
              exact hq
        obtain ⟨r1, r2, r3⟩ := unl_inv (y :: r) (out ++ [e]) (fun z hz => by
          rcases List.mem_append.1 hz with h | h
          · exact h1 z h
          · rw [List.mem_singleton.1 h]; exact entryP_ok he) hp
        refine ⟨r1, r2, ?_⟩
        have e1 : (out ++ [e]).length = out.length + 1 := by simp
        have e2 : (x :: y :: r).length = (y :: r).length + 1 := by simp
        omega
      · exact ⟨by simp, by simp, by simp⟩
    · exact ⟨by simp, by simp, by simp⟩
theorem unlock_inv (s : List UInt8) : (∀ e ∈ (unlockP s).1, okE e) ∧ ((unlockP s).1.map (·.1)).Nodup ∧ (unlockP s).1.length ≤ 100000 := by
  unfold unlockP
  split
  · exact ⟨by simp, by simp, by simp⟩
  · obtain ⟨h1, h2, h3⟩ := unl_inv (splitL 10 s) [] (by simp) (by simp)
    refine ⟨h1, h2.imp fun {a b} h => ?_, ?_⟩
    · rintro rfl
      rw [mcmp_refl] at h
      cases h
    · have := (splitL_len 10 s).1
      simp only [List.length_nil] at h3
      omega
set_option maxRecDepth 100000 in
set_option maxHeartbeats 8000000 in
theorem VerifyC_any {cap : Nat} (hsort : SortsI cap) (y0 : ManW) (A : Option Addr) (c : Nat) (L : List RelA) (s : List UInt8) (w : World) (h0 : ManS w y0) (hA : Sl w w.heap.size 6 encR A L) (hok : ∀ r ∈ L, RelM w r) (h0m : ∀ x ∈ y0.2.2.2, okMod x) (hl : L.length ≤ 100) (hs : s.length ≤ 140737488355327) (hG : Glob w)
    (hc1 : (rdiffP (L.map RelA.rel) (unlockP s).1).length ≤ cap) (hc2 : rdiffP (L.map RelA.rel) (unlockP s).1 = [] → (outR y0.1.1 y0.2.2.2 (L.map RelA.rel)).length ≤ cap) :
    Calls Tryz.prog 22 #[.agg #[.string ⟨y0.1.1.toArray⟩, .int .i64 y0.1.2.1, .int .i64 y0.1.2.2.1, .int .i64 y0.1.2.2.2, .slice y0.2.1 y0.2.2.2.length y0.2.2.1], .slice A L.length c, .string ⟨s.toArray⟩] w (RetI w (verifyP y0.1.1 y0.2.2.2 (L.map RelA.rel) s)) := by
  obtain ⟨rm, A0, c0, l0⟩ := y0
  simp only at h0m hc2 ⊢
  have HA := Lib.hid hA
  have HOK := Lib.hid hok
  have H0 := Lib.hid h0
  have H0M := Lib.hid h0m
  have HG := Lib.hid hG
  have HB0 := Lib.hid (show Below w.heap.size w (w.alloc (.cells #[.string ⟨rm.1.toArray⟩, .int .i64 rm.2.1, .int .i64 rm.2.2.1, .int .i64 rm.2.2.2, .slice A0 l0.length c0] 29)) from (Below.refl _ _).alloc (Nat.le_refl _) _)
  have Q0 := Lib.hid (Blk.new w 29 #[.string ⟨rm.1.toArray⟩, .int .i64 rm.2.1, .int .i64 rm.2.2.1, .int .i64 rm.2.2.2, .slice A0 l0.length c0])
  obtain ⟨RR, hRR⟩ : ∃ RR, RR = verifyP rm.1 l0 (L.map RelA.rel) s := ⟨_, rfl⟩
  rw [← hRR]
  unfold verifyP at hRR
  have cU0 := fun W (hW : Below w.heap.size w W) => Unlock_any s W (hG.keep hW) hs
  obtain ⟨hi1, hi2, hi3⟩ := unlock_inv s
  generalize unlockP s = U at cU0 hRR hi1 hi2 hi3 hc1 hc2
  obtain ⟨E, ec, ea⟩ := U
  unfold RetU at cU0
  simp only at cU0 hRR hi1 hi2 hi3 hc1 hc2
  have cU := Lib.hid cU0
  have HR := Lib.hid hRR
  have HI1 := Lib.hid hi1
  have HI2 := Lib.hid hi2
  have HC1 := Lib.hid hc1
  have HC2 := Lib.hid hc2
  clear hA hok h0 h0m hRR cU0 hi1 hi2 hc1 hc2 hG
  go_enter Tryz.func22, Tryz.ntmps22
  go_wp2_with fail
  refine (cU.out _ HB0.out).mono ?_
  rintro e w2 ⟨A2, c2, rfl, hS2, hb2⟩
  have HB2 := Lib.hid (HB0.out.trans (hb2.mono HB0.out.size))
  have HW3 := Lib.hid (show Below w2.heap.size w2 (w2.alloc (.cells #[.int .i64 ec, .int .i64 (ea : Nat)] 42)) from (Below.refl _ _).alloc (Nat.le_refl _) _)
  have HB3 := Lib.hid (HB2.out.trans (HW3.out.mono HB2.out.size))
  have Q3 := Lib.hid ((Q0.out.keep hb2).keep HW3.out)
  have HS3 := Lib.hid (show Sl (w2.alloc (.cells #[.int .i64 ec, .int .i64 (ea : Nat)] 42)) (w2.alloc (.cells #[.int .i64 ec, .int .i64 (ea : Nat)] 42)).heap.size 5 encE A2 E from (hS2.below HW3.out).more HW3.out.size)
  have V3 := Blk.new w2 42 #[.int .i64 ec, .int .i64 (ea : Nat)]
  obtain ⟨k0, k1⟩ := fltC V3
  clear hS2 hb2 cU V3
  by_cases hec : ec = 0
  rotate_left
  · have HRes := Lib.hid (show RR = [([], 19)] from by rw [HR.out, if_pos hec])
    have heb : (ec == 0) = false := beq_eq_false_iff_ne.2 hec
    have hen : (ec != 0) = true := by rw [bne, heb]; rfl
    clear hec HR
    generalize hw3 : w2.alloc (.cells #[.int .i64 ec, .int .i64 (ea : Nat)] 42) = w3 at HB3 Q3 HS3 k0 k1 HW3
    go_wp2
    go_ret
    exact ⟨some ⟨w3.heap.size, 0, none⟩, 1, by rw [HRes.out]; rfl, by rw [HRes.out]; exact Nat.le_refl _, by rw [HRes.out]; exact sl_one (x := ([], 19)) (Blk.new _ 67 #[.string ⟨#[]⟩, .int .i64 19]), HB3.out.trans (((Below.refl _ _).alloc (Nat.le_refl _) _).mono HB3.out.size)⟩
  have HR2 := Lib.hid (show RR = if lerr (L.map RelA.rel) ≠ 0 then [([], lerr (L.map RelA.rel))] else if rdiffP (L.map RelA.rel) E ≠ [] then isort (rdiffP (L.map RelA.rel) E) else outR rm.1 l0 (L.map RelA.rel) from by rw [HR.out, if_neg (by simpa using hec)])
  subst hec
  clear HR
  generalize hw3 : w2.alloc (.cells #[.int .i64 0, .int .i64 (ea : Nat)] 42) = w3 at HB3 Q3 HS3 k0 k1 HW3
  have cL0 := List_any A c L w3 ((HA.out.below HB3.out).more HB3.out.size) (fun r hr => (HOK.out r hr).ok.below HB3.out) (by omega) (HG.out.keep HB3.out)
  unfold RetList at cL0
  have HLN := Lib.hid (fun (h : lerr (L.map RelA.rel) = 0) => (lerr_nodup h).2)
  generalize lout (L.map RelA.rel) = lo at cL0
  generalize lerr (L.map RelA.rel) = le at cL0 HR2 HLN
  have cL := Lib.hid cL0
  clear cL0
  go_wp2_with fail
  refine cL.out.mono ?_
  rintro e w4 ⟨A4, c4, rfl, _, hb4, _⟩
  have HB4 := Lib.hid (HB3.out.trans (hb4.mono HB3.out.size))
  have Q4 := Lib.hid (Q3.out.keep hb4)
  have HS4 := Lib.hid (show Sl w4 w4.heap.size 5 encE A2 E from (HS3.out.below hb4).more hb4.size)
  have hQ4lt : w.heap.size < w4.heap.size := Q4.out.lt
  clear hb4 cL k0 k1 HS3 Q3
  by_cases hle : le = 0
  rotate_left
  · have HRes := Lib.hid (show RR = [([], le)] from by rw [HR2.out, if_pos hle])
    have heb : (le == 0) = false := beq_eq_false_iff_ne.2 hle
    have hen : (le != 0) = true := by rw [bne, heb]; rfl
    clear hle HR2 HLN
    go_wp2
    go_ret
    exact ⟨some ⟨w4.heap.size, 0, none⟩, 1, by rw [HRes.out]; rfl, by rw [HRes.out]; exact Nat.le_refl _, by rw [HRes.out]; exact sl_one (x := ([], le)) (Blk.new _ 67 #[.string ⟨#[]⟩, .int .i64 le]), HB4.out.trans (((Below.refl _ _).alloc (Nat.le_refl _) _).mono HB4.out.size)⟩
  have HR3 := Lib.hid (show RR = if rdiffP (L.map RelA.rel) E ≠ [] then isort (rdiffP (L.map RelA.rel) E) else outR rm.1 l0 (L.map RelA.rel) from by rw [HR2.out, if_neg (by simpa using hle)])
  have HLn := Lib.hid (HLN.out hle)
  subst hle
  have cD0 := differences_any A c L A2 c2 E w4 ((HA.out.below HB4.out).more HB4.out.size) HS4.out (fun r hr => ⟨(HOK.out r hr).ok.below HB4.out, (HOK.out r hr).m⟩) (fun e he => (HI1.out e he).mod) HI2.out (by omega) hi3 (HG.out.keep HB4.out)
  unfold RetD at cD0
  have HDl := Lib.hid (diff_perm HLn.out HI2.out).length_eq
  have HEq := Lib.hid (fun (l : List Iss) hp hs => diff_eq (l := l) HLn.out HI2.out hp hs)
  have HNil := Lib.hid (fun (h : isort (rdiffP (L.map RelA.rel) E) = []) => isort_nil h)
  have HNy := Lib.hid (fun (h : rdiffP (L.map RelA.rel) E = []) => show isort (rdiffP (L.map RelA.rel) E) = [] by rw [h]; rfl)
  generalize diffP (L.map RelA.rel) E = DP at cD0 HDl HEq
  generalize isort (rdiffP (L.map RelA.rel) E) = o1 at HR3 HEq HNil HNy
  generalize rdiffP (L.map RelA.rel) E = RD at HR3 HDl HC1 HC2 HNil HNy
  have cD := Lib.hid cD0
  clear cD0 HR2 HLN
  go_wp2_with fail
  refine cD.out.mono ?_
  rintro e w5 ⟨v5, rfl, hrow, hb5⟩
  have HB5 := Lib.hid (HB4.out.trans (hb5.mono HB4.out.size))
  have Q5 := Lib.hid (Q4.out.keep hb5)
  have hsl5 := hrow.slice
  have HRow := Lib.hid hrow
  have hcap5 : DP.length ≤ cap := by rw [HDl.out]; exact HC1.out
  have cS := Lib.hid (hsort 45 (enters_of Tryz.func45 (by kernel_rfl) rfl) (fun x y W => icmpV_any x y W) v5 DP w5 w4.heap.size HRow.out hcap5)
  obtain ⟨A5, c5, rfl, hc5⟩ := hsl5
  clear hb5 hrow cD Q4 HS4 hcap5
  go_wp2_with fail
  refine cS.out.mono ?_
  rintro e w6 ⟨rfl, ⟨A9, c9, l9, hv9, hc9, hp9, hs9, hsl9⟩, hb6⟩
  have HB6 := Lib.hid (HB5.out.trans (hb6.mono HB4.out.size))
  have HB64 := Lib.hid hb6
  have hll := hp9.length_eq
  have hl9 : l9 = o1 := HEq.out l9 hp9 hs9
  subst hl9
  have hv := hv9
  injection hv with e1 e2 e3
  subst e1 e3
  have HSl9 := Lib.hid hsl9
  have Q6 := Lib.hid (show Blk w6 w.heap.size 29 #[.string ⟨rm.1.toArray⟩, .int .i64 rm.2.1, .int .i64 rm.2.2.1, .int .i64 rm.2.2.2, .slice A0 l0.length c0] from (HB64.out.block w.heap.size hQ4lt).trans Q5.out)
  clear hb6 hv9 hp9 hs9 hsl9 cS e2
  rcases Nat.eq_zero_or_pos DP.length with ho | ho
  rotate_left
  · have hoi : (0 : Int) < (DP.length : Int) := by omega
    have HRes := Lib.hid (show RR = l9 from by
      rw [HR3.out, if_pos]
      intro h
      rw [HNy.out h] at hll
      simp at hll
      omega)
    have HL := Lib.hid hll
    clear HR3 HNil HNy hll
    go_wp2
    go_ret
    exact ⟨A5, c5, by rw [HRes.out, HL.out]; rfl, by rw [HRes.out, HL.out]; exact hc9, by rw [HRes.out]; exact HSl9.out, HB6.out⟩
  obtain rfl : DP = [] := List.eq_nil_of_length_eq_zero ho
  have hlz : l9 = [] := List.eq_nil_of_length_eq_zero (by rw [hll]; rfl)
  have hRDz := HNil.out hlz
  have HRo := Lib.hid (show RR = outR rm.1 l0 (L.map RelA.rel) from by rw [HR3.out, if_neg (by rw [hRDz]; simp)])
  have hcap2 := HC2.out hRDz
  rw [← (out_perm rm.1 l0 (L.map RelA.rel)).length_eq] at hcap2
  have cO0 := outdatedC_any hsort (rm, A0, c0, l0) A c L w6 (H0.out.below HB6.out) ((HA.out.below HB6.out).more HB6.out.size) (fun r hr => ⟨(HOK.out r hr).ok.below HB6.out, (HOK.out r hr).m, (HOK.out r hr).l, (HOK.out r hr).n⟩) H0M.out hl hcap2
  simp only at cO0
  rw [← HRo.out] at cO0
  unfold RetI at cO0
  have cO := Lib.hid cO0
  obtain ⟨y0, y1, y2, y3, y4⟩ := manC (m := rm) (A := A0) (n := l0.length) (c := c0) Q6.out
  simp only [List.length_nil] at hc5 ⊢
  clear ho HR3 HNil HNy HSl9 hll hlz hRDz hcap2 cO0 HRo
  go_wp2_with fail
  refine cO.out.mono ?_
  rintro e w7 ⟨A7, c7, rfl, hc7, hS7, hb7⟩
  have HB7 := Lib.hid (HB6.out.trans (hb7.mono HB6.out.size))
  have HS7 := Lib.hid hS7
  clear hb7 hS7 cO
  go_wp2
  go_ret
  exact ⟨A7, c7, rfl, hc7, HS7.out, HB7.out⟩
theorem Verify_any (y0 : ManW) (A : Option Addr) (c : Nat) (L : List RelA) (s : List UInt8) (w : World) (h0 : ManS w y0) (hA : Sl w w.heap.size 6 encR A L) (hok : ∀ r ∈ L, RelM w r) (h0m : ∀ x ∈ y0.2.2.2, okMod x) (hl : L.length ≤ 100) (hs : s.length ≤ 140737488355327) (hG : Glob w)
    (hc1 : (rdiffP (L.map RelA.rel) (unlockP s).1).length ≤ sortCap) (hc2 : rdiffP (L.map RelA.rel) (unlockP s).1 = [] → (outR y0.1.1 y0.2.2.2 (L.map RelA.rel)).length ≤ sortCap) :
    Calls Tryz.prog 22 #[.agg #[.string ⟨y0.1.1.toArray⟩, .int .i64 y0.1.2.1, .int .i64 y0.1.2.2.1, .int .i64 y0.1.2.2.2, .slice y0.2.1 y0.2.2.2.length y0.2.2.1], .slice A L.length c, .string ⟨s.toArray⟩] w (RetI w (verifyP y0.1.1 y0.2.2.2 (L.map RelA.rel) s)) :=
  VerifyC_any sortsI_few y0 A c L s w h0 hA hok h0m hl hs hG hc1 hc2
end Go.Proofs.YthcgihgajdjfoaaGreatDoor
