/- Walks: orders do not matter (law47.DigestOrder). -/
import Derived.Test.YtabmidnamaaklaaGreatDoorWSm
import Derived.Test.YtabmidnamaaklaaGreatDoorWRv
import Derived.Test.YtabmidnamaaklaaGreatDoorPO
import Derived.Test.YtabmidnamaaklaaGreatDoorWZ
namespace Go.Proofs.YtabmidnamaaklaaGreatDoor
open Go.RowKit

theorem elRels : ElT Tryz.prog 44 40 6 88 := ElT.mk_ (z := .agg #[.string ByteArray.empty, .int .i64 0, .int .i64 0, .int .i64 0, .slice none 0 0, .slice none 0 0]) Tryz.underlying44 (by kernel_rfl) rfl (by decide)
/-- the slices of a release lie elsewhere -/
def Apart (v : Value) (r : RelA) : Prop := (r.l = [] ∨ ∀ a, r.A = some a → some a.block ≠ v.ownBlock) ∧ (r.s = [] ∨ ∀ a, r.A' = some a → some a.block ≠ v.ownBlock)
theorem Sl.grown {α : Type} {w w' : World} {k : Nat} {enc : α → List Value} {A : Option Addr} {l : List α} {row : Option Nat} (h : Sl w w.heap.size k enc A l) (hg : w.grownBy w' row) (hne : l = [] ∨ ∀ a, A = some a → some a.block ≠ row) : Sl w' w'.heap.size k enc A l := by
  rcases h with h | ⟨b, off, e, hb, hc⟩
  · exact .inl h
  · rcases hne with rfl | hne
    · exact .inl rfl
    · exact .inr ⟨b, off, e, Nat.lt_of_lt_of_le hb hg.size, fun i hi j v hv => hg.cell (hc i hi j v hv) (by have h := hne _ e; exact h)⟩
theorem RelOk.grown {w w' : World} {r : RelA} {v : Value} (h : RelOk w r) (hg : w.grownBy w' v.ownBlock) (hne : Apart v r) : RelOk w' r := ⟨h.hA.grown hg hne.1, h.hS.grown hg hne.2, h.hl, h.hsl, h.hm, h.hs⟩
theorem Acc.ownLt {w : World} {base e size n : Nat} {v : Value} {xs : List Value} (h : Acc w base e size v n xs) {b : Nat} (hb : v.ownBlock = some b) : b < w.heap.size := by
  rcases h with h | ⟨_, g, off, rfl, hlt, _⟩
  · exact (h.lt _ hb).2
  · have : g = b := by simpa [Value.ownBlock] using hb
    omega
theorem Apart.next {w : World} {v v' : Value} {r : RelA} (h : Apart v r) (hr : RelOk w r) (hv : v'.ownBlock = v.ownBlock ∨ ∃ g, v'.ownBlock = some g ∧ w.heap.size ≤ g) : Apart v' r := by
  rcases hv with hv | ⟨g, hv, hg⟩
  · unfold Apart
    rw [hv]
    exact h
  · unfold Apart
    rw [hv]
    refine ⟨?_, ?_⟩
    · rcases hr.hA with h | ⟨b, off, e, hb, _⟩
      · exact .inl h
      · refine .inr fun a ha e' => ?_
        rw [e] at ha
        injection ha with ha
        subst ha
        injection e' with e'
        simp only at e'
        omega
    · rcases hr.hS with h | ⟨b, off, e, hb, _⟩
      · exact .inl h
      · refine .inr fun a ha e' => ?_
        rw [e] at ha
        injection ha with ha
        subst ha
        injection e' with e'
        simp only at e'
        omega
theorem apart_of {v : Value} {w : World} {base e size n : Nat} {xs : List Value} {r : RelA} (h : Acc w base e size v n xs) (h1 : Far w.heap.size r.A) (h2 : Far w.heap.size r.A') : Apart v r :=
  ⟨.inr fun a ha e => by have := h.ownLt e.symm; have := h1 a ha; omega, .inr fun a ha e => by have := h.ownLt e.symm; have := h2 a ha; omega⟩
theorem rel_mem {w : World} {r : RelA} (h : RelOk w r) (q : RelA) (hq : q.rel = revR r.rel) (h1 : Sl w w.heap.size 4 encM q.A q.l) (h2 : Sl w w.heap.size 2 encT q.A' q.s) : RelOk w q := by
  obtain ⟨hqm, hql, hqs⟩ : q.m = r.m ∧ q.l = r.l.reverse ∧ q.s = r.s.reverse := by
    have := hq
    simp [RelA.rel, revR] at this
    exact this
  refine ⟨h1, h2, by rw [hql]; simpa using h.hl, by rw [hqs]; simpa using h.hsl, fun x hx => h.hm x ?_, fun x hx => h.hs x (by rw [hqs] at hx; simpa using hx)⟩
  rw [hqm, hql] at hx
  simpa using hx

set_option maxRecDepth 100000 in
set_option maxHeartbeats 4000000 in
theorem turn_any (r : RelA) (w : World) (h : RelOk w r) (hsm : smallR r.rel = true) :
    Calls Tryz.prog 24 #[.agg #[.string ⟨r.m.1.toArray⟩, .int .i64 r.m.2.1, .int .i64 r.m.2.2.1, .int .i64 r.m.2.2.2, .slice r.A r.l.length r.c, .slice r.A' r.s.length r.c']] w fun e w' =>
      ∃ q : RelA, e = .returned (.agg #[.string ⟨q.m.1.toArray⟩, .int .i64 q.m.2.1, .int .i64 q.m.2.2.1, .int .i64 q.m.2.2.2, .slice q.A q.l.length q.c, .slice q.A' q.s.length q.c']) ∧ q.rel = revR r.rel ∧ RelOk w' q ∧ Far w.heap.size q.A ∧ Far w.heap.size q.A' ∧ Below w.heap.size w w' := by
  obtain ⟨h8, h20⟩ : r.s.length ≤ 8 ∧ r.l.length ≤ 20 := by
    simp only [smallR, RelA.rel, Bool.and_eq_true] at hsm
    exact ⟨of_decide_eq_true hsm.2.1, of_decide_eq_true hsm.2.2⟩
  refine (reversed_any r.m r.A r.c r.l r.A' r.c' r.s w h.hA h.hS h20 h8).mono ?_
  rintro e w' ⟨A2, c2, A3, c3, rfl, h1, h2, f2, f3, hb⟩
  exact ⟨⟨r.m, A2, c2, r.l.reverse, A3, c3, r.s.reverse⟩, by simp, rfl, rel_mem (h.below hb) _ rfl h1 h2, f2, f3, hb⟩
theorem flatR_snoc (Q : List RelA) (q : RelA) : (Q ++ [q]).flatMap encR = Q.flatMap encR ++ [.string ⟨q.m.1.toArray⟩, .int .i64 q.m.2.1, .int .i64 q.m.2.2.1, .int .i64 q.m.2.2.2, .slice q.A q.l.length q.c, .slice q.A' q.s.length q.c'] := by
  rw [List.flatMap_append, List.flatMap_singleton]
  rfl
set_option maxRecDepth 100000 in
set_option maxHeartbeats 4000000 in
theorem order_walk (A : Option Addr) (c : Nat) (L : List RelA) (w : World) (hA : Sl w w.heap.size 6 encR A L) (hO : ∀ r ∈ L, RelOk w r ∧ r.l.length ≤ 1048576 ∧ r.s.length ≤ 1048576 ∧ (∀ x ∈ r.m :: r.l, x.1.length ≤ 1048576) ∧ ∀ x ∈ r.s, x.1.length ≤ 1048576 ∧ x.2.length ≤ 1048576) (hl : L.length ≤ 1099511627776) (hG : Glob w) :
    Calls Tryz.prog 8 #[.slice A L.length c] w fun e w' => e = .returned (.bool true) ∧ Below w.heap.size w w' := by
  have hok : ∀ r ∈ L, RelOk w r := fun r hr => (hO r hr).1
  have HG := Lib.hid hG
  have HOK := Lib.hid hok
  have HA := Lib.hid hA
  clear hG hok hO hA
  have ca := Lib.hid (fun W hW => alive_any W hW)
  by_cases h6 : 6 < L.length
  · have d6 : decide ((6 : Int) < (L.length : Int)) = true := decide_eq_true (by omega)
    go_enter Tryz.func8, Tryz.ntmps8
    go_wp2_with fail
    refine (ca.out _ HG.out).mono ?_
    rintro e w1 ⟨rfl, hb⟩
    go_wp2_with fail
    go_ret
    exact ⟨rfl, hb⟩
  have d6 : decide ((6 : Int) < (L.length : Int)) = false := decide_eq_false (by omega)
  go_enter Tryz.func8, Tryz.ntmps8
  go_wp2_with fail
  go_loopw [3, 4] (fun v i wr => ∃ (d k : Nat) (i0 : Int) (A4 : Option Addr) (c4 : Nat) (Q : List RelA), d + k = L.length ∧ Q.length = k ∧ i = .int .i64 i0 ∧ i0 = (d : Int) - 1 ∧ v = .slice A4 k c4 ∧
      Hid (Acc wr w.heap.size 40 6 (.slice A4 k c4) k (Q.flatMap encR)) ∧ Hid (Q.map RelA.rel = backR ((L.map RelA.rel).drop d)) ∧ Hid (∀ r ∈ Q, RelOk wr r ∧ Apart (.slice A4 k c4) r) ∧ Below w.heap.size w wr) (fun _ i _ => (intOf i + 1).toNat)
  case atStart => exact ⟨L.length, 0, _, none, 0, [], rfl, rfl, rfl, rfl, rfl, Acc.nil_ _ _ _ _, by rw [← List.length_map (f := RelA.rel), List.drop_length]; rfl, (fun r hr => absurd hr (by simp) : ∀ r ∈ ([] : List RelA), _), Below.refl _ _⟩
  case round =>
    obtain ⟨d, k, i0, A4, c4, Q, hdk, hQk, rfl, hi0, rfl, HO, HQ, HR, hb⟩ := hrel
    have hbz := hb.size
    rcases d with _ | j
    · obtain rfl : i0 = -1 := by omega
      clear hi0
      obtain rfl : k = L.length := by omega
      clear hdk
      have HQ0 := Lib.hid (show Q.map RelA.rel = backR (L.map RelA.rel) from HQ.out)
      have HGr := HG.out.keep hb
      have hsl := HO.out.slAny encR_len (by decide)
      have hl6 : L.length ≤ 6 := by omega
      have HB0 := Lib.hid hb
      have cL := List_any A c L wr ((HA.out.below hb).more hb.size) (fun r hr => (HOK.out r hr).below hb) (by omega) HGr
      have cB0 := fun W (hW : Below wr.heap.size wr W) => List_any A4 c4 Q W ((hsl.below hW).more hW.size) (fun r hr => (HR.out r hr).1.below hW) (by omega) (HGr.keep hW)
      rw [HQ0.out] at cB0
      rw [lout_back, hQk] at cB0
      have hEF := lerr_back (L.map RelA.rel)
      have hxl : (lout (L.map RelA.rel)).length ≤ 6 := by
        by_cases hE : lerr (L.map RelA.rel) = 0
        · rw [lout_len _ hE]; simpa using hl6
        · rw [lout_ne _ hE]; simp
      generalize lerr (backR (L.map RelA.rel)) = F at cB0 hEF
      generalize lerr (L.map RelA.rel) = E at cL hEF
      generalize lout (L.map RelA.rel) = X at cL cB0 hxl
      have cL' := Lib.hid cL
      have cB' := Lib.hid cB0
      clear cL cB0 hsl HGr hb HQ HR
      have hEF' : (E == 0) = (F == 0) := by
        by_cases h : E = 0
        · rw [hEF.2 h, h]
        · have h' : F ≠ 0 := fun hc => h (hEF.1 hc)
          rw [beq_eq_false_iff_ne.2 h, beq_eq_false_iff_ne.2 h']
      clear hEF
      go_wp2_with fail
      refine cL'.out.mono ?_
      rintro e w2 ⟨A2, c2, rfl, hS2, hb2, _⟩
      have hx2 := Lib.hid hb2
      clear hb2
      go_wp2_with fail
      refine (cB'.out _ hx2.out).mono ?_
      rintro e w3 ⟨A3, c3, rfl, hS3, hb3, _⟩
      have hB3 := Lib.hid (HB0.out.trans ((hx2.out.trans (hb3.mono hx2.out.size)).mono HB0.out.size))
      have cq0 := same_any A2 A3 c2 c3 X X w3 ((hS2.below hb3).more hb3.size) hS3 (by omega) (by omega)
      rw [decide_eq_true rfl] at cq0
      have cq := Lib.hid cq0
      clear hb3 cq0
      cases hf : (F == 0)
      all_goals
        rw [hf] at hEF'
        go_wp2_with fail
        refine cq.out.mono ?_
        rintro e w4 ⟨rfl, hb4⟩
        have hB4 := Lib.hid (hB3.out.trans (hb4.mono hB3.out.size))
        clear hb4
        go_wp2_with fail
        refine (ca.out _ (HG.out.keep hB4.out)).mono ?_
        rintro e w5 ⟨rfl, hb5⟩
        go_wp2_with fail
        go_ret
        exact ⟨rfl, hB4.out.trans (hb5.mono hB4.out.size)⟩
    · obtain rfl : i0 = (j : Nat) := by omega
      clear hi0
      have hj : j < L.length := by omega
      have hjl : (j : Int) < (L.length : Int) := by omega
      obtain ⟨b, off, rfl, hbB, g0, g1, g2, g3, g4, g5⟩ := (HA.out.below hb).rel hj
      have hrk := (HOK.out L[j] (List.getElem_mem hj)).below hb
      have HD := Lib.hid (back_drop (L.map RelA.rel) j (by simpa using hj))
      have hmr : (L.map RelA.rel)[j]'(by simpa using hj) = (L[j]).rel := by simp
      rw [hmr] at HD
      clear hmr
      generalize L[j] = r at g0 g1 g2 g3 g4 g5 hrk HD
      have cS := small_any r wr hrk
      cases hsm : smallR r.rel
      · rw [hsm] at cS
        have cS' := Lib.hid cS
        clear cS hsm hrk
        go_wp2_with fail
        refine cS'.out.mono ?_
        rintro e w1 ⟨rfl, hb1⟩
        have hB1 := Lib.hid (hb.trans (hb1.mono hbz))
        go_wp2_with fail
        refine (ca.out _ (HG.out.keep hB1.out)).mono ?_
        rintro e w2 ⟨rfl, hb2⟩
        go_wp2_with fail
        go_ret
        exact ⟨rfl, hB1.out.trans (hb2.mono hB1.out.size)⟩
      · rw [hsm] at cS
        have cS' := Lib.hid cS
        have HK := Lib.hid hrk
        have HSM := Lib.hid hsm
        clear cS hsm hrk
        go_wp2_with fail
        refine cS'.out.mono ?_
        rintro e w1 ⟨rfl, hb1⟩
        have gs := Lib.hid (fun W (hW : Below wr.heap.size wr W) => (⟨cell_keep hW g0, cell_keep hW g1, cell_keep hW g2, cell_keep hW g3, cell_keep hW g4, cell_keep hW g5⟩ : W.cell? ⟨b, off + j * 6, none⟩ = some (.string ⟨r.m.1.toArray⟩) ∧ W.cell? ⟨b, off + j * 6 + 1, none⟩ = some (.int .i64 r.m.2.1) ∧ W.cell? ⟨b, off + j * 6 + 2, none⟩ = some (.int .i64 r.m.2.2.1) ∧ W.cell? ⟨b, off + j * 6 + 3, none⟩ = some (.int .i64 r.m.2.2.2) ∧ W.cell? ⟨b, off + j * 6 + 4, none⟩ = some (.slice r.A r.l.length r.c) ∧ W.cell? ⟨b, off + j * 6 + 5, none⟩ = some (.slice r.A' r.s.length r.c')))
        have hx1 := Lib.hid hb1
        have hB1 := Lib.hid (hb.trans (hb1.mono hbz))
        clear hb1 g0 g1 g2 g3 g4 g5 cS'
        have cR := Lib.hid (relA_any r w1 (HK.out.below hx1.out) (HG.out.keep hB1.out))
        obtain ⟨p0, p1, p2, p3, p4, p5⟩ := gs.out w1 hx1.out
        have HT := Lib.hid (rtext_rev r.rel)
        have HE := Lib.hid (rerr_rev r.rel)
        generalize rtext r.rel = rt at cR HT
        generalize rerr r.rel = re at cR HE
        go_wp2_with fail
        refine cR.out.mono ?_
        rintro e w2 ⟨rfl, hb2⟩
        have hx2 := Lib.hid (hx1.out.trans (hb2.mono hx1.out.size))
        clear hb2 p0 p1 p2 p3 p4 p5 cR
        have cT := Lib.hid (turn_any r w2 (HK.out.below hx2.out) HSM.out)
        obtain ⟨p0, p1, p2, p3, p4, p5⟩ := gs.out w2 hx2.out
        go_wp2_with fail
        refine cT.out.mono ?_
        rintro e w3 ⟨q, rfl, hq, hq2, _, _, hb3⟩
        have hx3 := Lib.hid (hx2.out.trans (hb3.mono hx2.out.size))
        have hB3 := Lib.hid (hb.trans (hx3.out.mono hbz))
        have cR2 := relA_any q w3 hq2 (HG.out.keep hB3.out)
        rw [hq, HT.out, HE.out] at cR2
        have cR3 := Lib.hid cR2
        clear hb3 p0 p1 p2 p3 p4 p5 cR2 hq hq2 cT
        go_wp2_with fail
        refine cR3.out.mono ?_
        rintro e w4 ⟨rfl, hb4⟩
        have hx4 := Lib.hid (hx3.out.trans (hb4.mono hx3.out.size))
        clear hb4 cR3
        have cT := Lib.hid (turn_any r w4 (HK.out.below hx4.out) HSM.out)
        obtain ⟨p0, p1, p2, p3, p4, p5⟩ := gs.out w4 hx4.out
        go_wp2_with fail
        refine cT.out.mono ?_
        rintro e w5 ⟨q2, rfl, hq, hq2, far1, far2, hb5⟩
        have hx5 := Lib.hid (hx4.out.trans (hb5.mono hx4.out.size))
        have HO4 := HO.out.below hx4.out
        have HAp := Lib.hid (apart_of (r := q2) HO4 far1 far2)
        have HO5 := Lib.hid (HO.out.below hx5.out)
        have HQ2 := Lib.hid hq2
        have HQr := Lib.hid hq
        have hz5 := hx5.out.size
        have hB5 := Lib.hid (hb.trans (hx5.out.mono hbz))
        clear p0 p1 p2 p3 p4 p5 hq hq2 cT far1 far2 hb5 HO4
        have b0 : k + 1 ≤ maxLen := by unfold maxLen; omega
        have b1 : (k + 1) * 88 ≤ 140737488355328 := by omega
        go_wp2_with (at_builtin; refine wpList_app _ rfl (.tmp 56) (.tmp 62) 44 rfl w.heap.size 40 6 88 elRels (.slice A4 k c4) k _ rfl (HO5.out.alloc _) _ 1 1 _ rfl (Src.lit _ 6 _ _ 1 rfl) (by simp [Value.oneCell']) b0 b1 (by simp; omega) ?_; intro v' w6 hacc6 hgrow6 hb6 _ hob6; obtain ⟨A6, c6, rfl⟩ := hacc6.shape)
        have HO6 := Lib.hid hacc6
        have HB6 := Lib.hid ((hB5.out.alloc hB5.out.size _).trans hb6)
        have HG6 := Lib.hid hgrow6
        have HB := Lib.hid hob6
        clear hacc6 hb6 hgrow6 hob6
        go_roundw
        case rel =>
          refine ⟨j, k + 1, _, A6, c6, Q ++ [q2], by omega, by simp [hQk], by go_num, by omega, rfl, ?_, ?_, ?_, HB6.out⟩
          · have h := HO6.out
            rw [flatR_snoc]
            exact h
          · rw [List.map_append, HQ.out, HD.out]
            show _ ++ [q2.rel] = _
            rw [HQr.out]
          · intro x hx
            have h5 : RelOk w5 x ∧ Apart (.slice A4 k c4) x := by
              rcases List.mem_append.1 hx with hx | hx
              · exact ⟨(HR.out x hx).1.below hx5.out, (HR.out x hx).2⟩
              · obtain rfl : x = q2 := by simpa using hx
                exact ⟨HQ2.out, HAp.out⟩
            have h6 := h5.1.below ((Below.refl _ _).alloc (Nat.le_refl _) (.cells #[.string ⟨q2.m.1.toArray⟩, .int .i64 q2.m.2.1, .int .i64 q2.m.2.2.1, .int .i64 q2.m.2.2.2, .slice q2.A q2.l.length q2.c, .slice q2.A' q2.s.length q2.c'] 40))
            exact ⟨h6.grown HG6.out h5.2, h5.2.next h6 HB.out⟩
        case measure => simp [intOf]
end Go.Proofs.YtabmidnamaaklaaGreatDoor
