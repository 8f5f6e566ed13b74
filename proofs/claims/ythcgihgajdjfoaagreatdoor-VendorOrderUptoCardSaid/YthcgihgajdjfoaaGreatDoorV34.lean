/- What the claim needs of: WRL2. -/
import Derived.Test.YthcgihgajdjfoaaGreatDoorV33
import Derived.Test.YthcgihgajdjfoaaGreatDoorV18
import Derived.Test.YthcgihgajdjfoaaGreatDoorV24
namespace Go.Proofs.YthcgihgajdjfoaaGreatDoor
open Go.RowKit Go.Sort
structure RelB (w : World) (r : RelA) : Prop where
 ok : RelOk w r
 hs : r.s.length ≤ 1048576
 hn : ∀ x ∈ r.s, x.1.length ≤ 1048576
theorem RelB.below {w w' : World} {r : RelA} (h : RelB w r) (hb : Below w.heap.size w w') : RelB w' r := ⟨h.ok.below hb, h.hs, h.hn⟩
theorem refRel_any (r : RelA) (w : World) (h : RelB w r) :
  Calls Tryz.prog 25 #[.agg #[.string ⟨r.m.1.toArray⟩, .int .i64 r.m.2.1, .int .i64 r.m.2.2.1, .int .i64 r.m.2.2.2, .slice r.A r.l.length r.c, .slice r.A' r.s.length r.c']] w fun e w' => e = .returned (.tuple #[.string ⟨(rtext r.rel).toArray⟩, .int .i64 (rerr r.rel)]) ∧ Below w.heap.size w w' :=
 refRelease_any r.m r.A r.c r.l r.A' r.c' r.s w h.ok.hA h.ok.hS h.ok.hl h.hs h.ok.hm (fun x hx => ⟨h.hn x hx, (h.ok.hs x hx).2⟩)
def RetL (w : World) (x : List (List UInt8)) (E : Int) (e : Ending) (w' : World) : Prop :=
 ∃ A c, e = .returned (.tuple #[.slice A x.length c, .int .i64 E]) ∧ Sl w' w'.heap.size 1 encS A x ∧ Below w.heap.size w w'
theorem Acc.own_lt {w : World} {base e size n : Nat} {v : Value} {xs : List Value} (h : Acc w base e size v n xs) {b : Nat} (hb : v.ownBlock = some b) : b < w.heap.size := by
 rcases h with h | ⟨_, g, off, rfl, hlt, _⟩
 ·exact (h.lt b hb).2
 ·simp [Value.ownBlock] at hb
  omega
def mods (L : List RelA) : List Mod := L.map fun r => r.m
theorem mods_take (L : List RelA) (k : Nat) (h : k < L.length) : (mods (L.take (k + 1))).flatMap encM = (mods (L.take k)).flatMap encM ++ encM L[k].m := by
 unfold mods
 rw [List.take_succ_eq_append_getElem h, List.map_append, List.flatMap_append]
 simp
set_option maxRecDepth 100000 in
set_option maxHeartbeats 8000000 in
theorem refList_any (A : Option Addr) (c : Nat) (L : List RelA) (w : World) (hA : Sl w w.heap.size 6 encR A L) (hok : ∀ r ∈ L, RelB w r) (hl : L.length ≤ 1000) :
  Calls Tryz.prog 38 #[.slice A L.length c] w (RetL w (lout (L.map RelA.rel)) (lerr (L.map RelA.rel))) := by
 have HOK := Lib.hid hok
 clear hok
 generalize hR : RetL w (lout (L.map RelA.rel)) (lerr (L.map RelA.rel)) = R
 have HR := Lib.hid hR
 clear hR
 go_enter Tryz.func38, Tryz.ntmps38
 go_wp2
 go_loopw [4, 18] (fun v i wr => ∃ k, k ≤ L.length ∧ i = .int .i64 (k : Nat) ∧ Acc wr w.heap.size 26 4 v k ((mods (L.take k)).flatMap encM) ∧ Hid (∀ j, j < k → ∀ hj : j < L.length, rerr L[j].rel = 0) ∧ Below w.heap.size w wr)
  (fun _ i _ => L.length - (intOf i).toNat)
 case atStart => exact ⟨0, Nat.zero_le _, rfl, Acc.nil_ _ _ _ _, fun j h => by omega, Below.refl _ _⟩
 case round =>
  obtain ⟨k, hk, rfl, hacc, HZ, hb⟩ := hrel
  have hbz := hb.size
  by_cases hlt : k < L.length
  ·have hlt' : (k : Int) < (L.length : Int) := by omega
   obtain ⟨b, off, rfl, hbB, g0, g1, g2, g3, g4, g5⟩ := (hA.below hb).rel hlt
   have hrk := (HOK.out L[k] (List.getElem_mem hlt)).below hb
   have HN := Lib.hid (mods_take L k hlt)
   have HE := Lib.hid (fun h => ferr_at (L.map RelA.rel) k (by simpa using hlt) (fun j hj => by have := HZ.out j hj (by omega); simpa using this) (by simpa using h) : rerr L[k].rel ≠ 0 → _)
   have HZ' := Lib.hid (fun h => (fun j hj hjl => by
    rcases (show j < k ∨ j = k by omega) with h' | rfl
    ·exact HZ.out j h' hjl
    ·exact h : ∀ j, j < k + 1 → ∀ hj : j < L.length, rerr L[j].rel = 0) : rerr L[k].rel = 0 → _)
   have hget := Lib.hid (show (L.map RelA.rel)[k]'(by simpa using hlt) = L[k].rel by simp)
   have HE' := Lib.hid (fun (h : rerr L[k].rel ≠ 0) => (HE.out h).trans (congrArg rerr hget.out))
   clear HE hget
   generalize L[k] = r at g0 g1 g2 g3 g4 g5 hrk HN HE' HZ'
   have cR := Lib.hid (refRel_any r (wr.alloc (.cells #[.string ⟨r.m.1.toArray⟩, .int .i64 r.m.2.1, .int .i64 r.m.2.2.1, .int .i64 r.m.2.2.2, .slice r.A r.l.length r.c, .slice r.A' r.s.length r.c'] 62)) (hrk.below ((Below.refl _ _).alloc (Nat.le_refl _) _)))
   clear hrk
   generalize r.rel = rr at cR HE' HZ'
   generalize rerr rr = E at cR HE' HZ'
   by_cases hE : E = 0
   ·have HZ2 := Lib.hid (HZ'.out hE)
    clear HZ' HE'
    subst hE
    have HACC := Lib.hid (hacc.alloc (.cells #[.string ⟨r.m.1.toArray⟩, .int .i64 r.m.2.1, .int .i64 r.m.2.2.1, .int .i64 r.m.2.2.2, .slice r.A r.l.length r.c, .slice r.A' r.s.length r.c'] 62))
    clear hacc
    go_wp2_with (first
     | (go_at_call 25; refine cR.out.mono ?_; rintro e w1 ⟨rfl, hb1⟩; have q0 := (Blk.new wr 62 #[.string ⟨r.m.1.toArray⟩, .int .i64 r.m.2.1, .int .i64 r.m.2.2.1, .int .i64 r.m.2.2.2, .slice r.A r.l.length r.c, .slice r.A' r.s.length r.c']).keep hb1; have k0 := q0.cell 0; have k1 := q0.cell 1; have k2 := q0.cell 2; have k3 := q0.cell 3; simp at k0 k1 k2 k3; clear q0; have hacc1 := HACC.out.below hb1; have hB1 := Lib.hid ((hb.alloc hbz (.cells #[.string ⟨r.m.1.toArray⟩, .int .i64 r.m.2.1, .int .i64 r.m.2.2.1, .int .i64 r.m.2.2.2, .slice r.A r.l.length r.c, .slice r.A' r.s.length r.c'] 62)).trans (hb1.mono (by simp; omega))); clear hb1)
     | (at_builtin; refine wpList_app _ rfl (.tmp 30) (.tmp 34) 27 rfl w.heap.size 26 4 40 elMod _ k _ rfl (hacc1.alloc _) _ 1 _ _ rfl (Src.lit _ 4 _ _ 1 rfl) (by simp [Value.oneCell']) (by simp only [maxLen]; omega) (by omega) (by have := hB1.out.size; simp; omega) ?_; intro v2 w2 hacc2 _ hb2 _ _; (have HB2 := Lib.hid ((hB1.out.alloc hB1.out.size _).trans hb2)); clear hb2))
    go_roundw
    case rel => exact ⟨k + 1, by omega, by go_num, by rw [HN.out]; exact hacc2, HZ2.out, HB2.out⟩
    case measure => simp [intOf]; omega
   ·have hE' : (E != 0) = true := by simpa using hE
    have hfe := HE'.out hE
    have hle := Lib.hid (show lerr (L.map RelA.rel) = E by unfold lerr; rw [hfe, if_pos hE])
    have hlo := Lib.hid (show lout (L.map RelA.rel) = [] by unfold lout; rw [hle.out, if_neg hE])
    clear HZ' HE' hE hfe
    go_wp2_with (go_at_call 25; refine cR.out.mono ?_; rintro e w1 ⟨rfl, hb1⟩)
    show R (.returned (.tuple #[.slice none 0 0, .int .i64 E])) w1
    rw [← HR.out, hle.out, hlo.out]
    exact ⟨none, 0, rfl, .inl rfl, (hb.alloc hbz _).trans (hb1.mono (by simp; omega))⟩
  ·have hlt' : ¬ (k : Int) < (L.length : Int) := by omega
   obtain rfl : k = L.length := by omega
   have hfe := Lib.hid (ferr_none (L.map RelA.rel) (fun j hj => by simpa using HZ.out j (by simpa using hj) (by simpa using hj)))
   obtain ⟨A4, c4, rfl⟩ := hacc.shape
   have hS := (hacc.sl encM_len (by decide)).2
   rw [List.take_length] at hS
   have hml : L.length = (mods L).length := by simp [mods]
   have hmm : mods L = (L.map RelA.rel).map (·.1) := by simp [mods, RelA.rel]
   have cS0 := refSorted_any A4 c4 (mods L) wr hS (by omega)
   rw [← hml] at cS0
   have cS := Lib.hid cS0
   have HML := Lib.hid (show (msort (mods L)).length = L.length by rw [msort_len, hml])
   have HPM := Lib.hid (show (msort (mods L)).Perm ((L.map RelA.rel).map (·.1)) by rw [← hmm]; exact msort_perm _)
   have HSM := Lib.hid (msort_sorted (mods L))
   have HPK := Lib.hid (show lerr (L.map RelA.rel) = 0 → picks (L.map RelA.rel) (msort (mods L)) = lout (L.map RelA.rel) from fun h => by rw [hmm]; exact picks_eq _ h)
   generalize msort (mods L) = M at cS HML HPM HSM HPK
   have hM1 : M.length ≤ L.length := Nat.le_of_eq HML.out
   have hM2 : L.length ≤ M.length := Nat.le_of_eq HML.out.symm
   clear hacc hS hml hmm cS0 HZ
   have HB := Lib.hid hb
   clear hb
   go_wp2_with fail
   refine cS.out.mono ?_
   rintro e w2 ⟨A5, c5, rfl, hS5, hb2⟩
   have hB2 := Lib.hid (HB.out.trans (hb2.mono hbz))
   clear hb2 cS
   go_wp2_with fail
   go_loopw [9, 41] (fun v i wr2 => ∃ j, j ≤ M.length ∧ i = .int .i64 (j : Nat) ∧ Acc wr2 w2.heap.size 9 1 v (picks (L.map RelA.rel) (M.take j)).length (strs (picks (L.map RelA.rel) (M.take j))) ∧ Hid (∀ i, i + 1 < j → ∀ h : i + 1 < M.length, M[i] ≠ M[i + 1]) ∧ Below w2.heap.size w2 wr2)
    (fun _ i _ => M.length - (intOf i).toNat)
   case atStart => exact ⟨0, Nat.zero_le _, rfl, Acc.nil_ _ _ _ _, fun j h => by omega, Below.refl _ _⟩
   case round =>
    rename World => wq
    obtain ⟨j, hj, rfl, hown, HA, hbq⟩ := hrel
    obtain ⟨A6, c6, rfl⟩ := hown.shape
    have hbqz := hbq.size
    by_cases hjt : j < M.length
    ·have hjt' : (j : Int) < (L.length : Int) := by omega
     obtain ⟨D, hD0, hD1⟩ : ∃ D : Bool, (j = 0 → D = false) ∧ (∀ n, n + 1 = j → ∀ h : n < M.length, D = decide (M[n] = M[j])) := by
      rcases j with _ | n
      ·exact ⟨false, fun _ => rfl, fun n hn => by omega⟩
      ·exact ⟨decide (M[n] = M[n + 1]), fun h => by omega, fun n' hn' h => by
        obtain rfl : n' = n := by omega
        rfl⟩
     have HT := Lib.hid (show D = true → ¬ (M.map id).Nodup from fun h => by
      rcases Nat.eq_zero_or_pos j with h0 | h0
      ·rw [hD0 h0] at h; cases h
      ·have h1 := hD1 (j - 1) (by omega) (by omega)
       rw [h] at h1
       exact keyed_dup (f := id) j h0 hjt (by simpa using h1.symm))
     have HF := Lib.hid (show D = false → ∀ i, i + 1 < j + 1 → ∀ h : i + 1 < M.length, M[i] ≠ M[i + 1] from fun h => by
      rcases Nat.eq_zero_or_pos j with h0 | h0
      ·intro i hi; omega
      ·have h1 := hD1 (j - 1) (by omega) (by omega)
       rw [h] at h1
       exact keyed_step (f := id) j h0 hjt HA.out (by simpa using h1.symm))
     have HD0 := Lib.hid hD0
     have HD1 := Lib.hid hD1
     have HPT := Lib.hid (picks_take (L.map RelA.rel) M j hjt)
     have hlen0 : (picks (L.map RelA.rel) (M.take j)).length ≤ 1000 * 1000 := by
      have h1 := picks_len (L.map RelA.rel) (M.take j)
      have h2 : (M.take j).length ≤ 1000 := by simp; omega
      have h3 : (L.map RelA.rel).length ≤ 1000 := by simp; omega
      exact Nat.le_trans h1 (Nat.mul_le_mul h2 h3)
     have HLEN := Lib.hid (show ∀ k m, (picks (L.map RelA.rel) (M.take j) ++ pick ((L.map RelA.rel).take k) m).length ≤ 1001000 from fun k m => by
      have h1 := pick_len ((L.map RelA.rel).take k) m
      have h2 : ((L.map RelA.rel).take k).length ≤ 1000 := by simp; omega
      rw [List.length_append]
      omega)
     clear hD0 hD1 hlen0
     generalize picks (L.map RelA.rel) (M.take j) = pre at hown HPT HLEN
     obtain ⟨b5, off5, rfl, hb5, m0, m1, m2, m3⟩ := (hS5.below hbq).mod hjt
     generalize hMj : M[j] = m at m0 m1 m2 m3 HD1 HPT
     clear hMj
     have hne0 : some wq.heap.size ≠ (Value.slice A6 pre.length c6).ownBlock := fun e => by have := hown.own_lt e.symm; omega
     go_upto_region 15 with fail
     have hbW := hbq.alloc hbqz (.cells #[.string ⟨m.1.toArray⟩, .int .i64 m.2.1, .int .i64 m.2.2.1, .int .i64 m.2.2.2] 26)
     have hownW := hown.alloc (.cells #[.string ⟨m.1.toArray⟩, .int .i64 m.2.1, .int .i64 m.2.2.1, .int .i64 m.2.2.2] 26)
     have q0 := Blk.new wq 26 #[.string ⟨m.1.toArray⟩, .int .i64 m.2.1, .int .i64 m.2.2.1, .int .i64 m.2.2.2]
     have hzz : (wq.alloc (.cells #[.string ⟨m.1.toArray⟩, .int .i64 m.2.1, .int .i64 m.2.2.1, .int .i64 m.2.2.2] 26)).heap.size = wq.heap.size + 1 := by simp
     clear m0 m1 m2 m3 hown hbq
     generalize wq.alloc (.cells #[.string ⟨m.1.toArray⟩, .int .i64 m.2.1, .int .i64 m.2.2.1, .int .i64 m.2.2.2] 26) = W0 at hbW hownW q0 hzz ⊢
     generalize wq.heap.size = g at q0 hzz hbqz hne0 ⊢
     have Q2 := Lib.hid q0
     have HOWN := Lib.hid hownW
     have HBW := Lib.hid hbW
     have hW0z := hbW.size
     clear hownW hbW
     go_cut [56] (fun t wx => t = .bool D ∧ Below W0.heap.size W0 wx)
     case first =>
      have p0 := q0.cell 0; have p1 := q0.cell 1; have p2 := q0.cell 2; have p3 := q0.cell 3
      simp at p0 p1 p2 p3
      clear q0
      by_cases h0 : 0 < j
      ·obtain ⟨n, hn⟩ : ∃ n, n + 1 = j := ⟨j - 1, by omega⟩
       have d0 : decide (0 < j) = true := decide_eq_true h0
       have d1 : decide ((0 : Int) < (j : Int)) = true := decide_eq_true (by omega)
       have hw : IntKind.i64.wrap ((j : Int) - 1) = (n : Int) := by simp [IntKind.wrap, IntKind.bits, IntKind.signed]; omega
       have hnM : n < M.length := by omega
       have hnL : (n : Int) < (L.length : Int) := by omega
       obtain ⟨b6, off6, e6, _, f0, f1, f2, f3⟩ := (hS5.below HBW.out).mod hnM
       obtain ⟨rfl, rfl⟩ : b5 = b6 ∧ off5 = off6 := by simpa using e6
       have hDn := HD1.out n hn hnM
       generalize M[n] = y at f0 f1 f2 f3 hDn
       have heq := fun W => eq_mod y.1 m.1 y.2.1 y.2.2.1 y.2.2.2 m.2.1 m.2.2.1 m.2.2.2 W
       by_cases hs : y = m
       ·rw [decide_eq_true hs] at hDn
        rw [decide_eq_true (show (y.1, y.2.1, y.2.2.1, y.2.2.2) = (m.1, m.2.1, m.2.2.1, m.2.2.2) from hs)] at heq
        have HDn := Lib.hid hDn
        clear hDn hs e6
        go_wp2
        go_quiet (fail)
        go_wp2
        go_meet
        case rel => exact ⟨by rw [HDn.out], (Below.refl _ _).drewN _⟩
       ·rw [decide_eq_false hs] at hDn
        rw [decide_eq_false (show ¬ (y.1, y.2.1, y.2.2.1, y.2.2.2) = (m.1, m.2.1, m.2.2.1, m.2.2.2) from hs)] at heq
        have HDn := Lib.hid hDn
        clear hDn hs e6
        go_wp2
        go_quiet (fail)
        go_wp2
        go_meet
        case rel => exact ⟨by rw [HDn.out], (Below.refl _ _).drewN _⟩
      ·have HDn := Lib.hid (HD0.out (by omega))
       have d0 : decide (0 < j) = false := decide_eq_false h0
       have d1 : decide ((0 : Int) < (j : Int)) = false := decide_eq_false (by omega)
       go_wp2
       go_quiet (fail)
       go_wp2
       go_meet
       case rel => exact ⟨by rw [HDn.out], (Below.refl _ _).drewN _⟩
     case rest =>
      obtain ⟨rfl, hby⟩ := hcut
      have HBY := Lib.hid hby
      have hyz := hby.size
      clear q0 hby HD0 HD1
      cases D
      ·have HA' := Lib.hid (HF.out rfl)
       have hown0 := HOWN.out.below HBY.out
       have HB0 := Lib.hid (HBW.out.trans (HBY.out.mono hW0z))
       have q := (Q2.out.keep HBY.out).cell
       have p0 := q 0; have p1 := q 1; have p2 := q 2; have p3 := q 3
       simp at p0 p1 p2 p3
       have hgz : g < wc.heap.size := by omega
       clear q HT HF
       go_wp2_with fail
       go_loopw [9, 59] (fun v i wr => ∃ k, k ≤ L.length ∧ i = .int .i64 (k : Nat) ∧ Acc wr w2.heap.size 9 1 v (pre ++ pick ((L.map RelA.rel).take k) m).length (strs (pre ++ pick ((L.map RelA.rel).take k) m)) ∧ some g ≠ v.ownBlock ∧ wr.cell? ⟨g, 0, none⟩ = some (.string ⟨m.1.toArray⟩) ∧ wr.cell? ⟨g, 1, none⟩ = some (.int .i64 m.2.1) ∧ wr.cell? ⟨g, 2, none⟩ = some (.int .i64 m.2.2.1) ∧ wr.cell? ⟨g, 3, none⟩ = some (.int .i64 m.2.2.2) ∧ Below w2.heap.size w2 wr)
        (fun _ i _ => L.length - (intOf i).toNat)
       case atStart => exact ⟨0, Nat.zero_le _, rfl, by simpa [pick] using hown0, hne0, p0, p1, p2, p3, HB0.out⟩
       case round =>
        rename World => wi
        obtain ⟨k, hk, rfl, howi, hnei, f0, f1, f2, f3, hbi⟩ := hrel
        obtain ⟨A7, c7, rfl⟩ := howi.shape
        have hbiz := hbi.size
        have HBI := Lib.hid hbi
        have HBI2 := Lib.hid (hB2.out.trans (hbi.mono hB2.out.size))
        have hgi : g < wi.heap.size := lt_of_cell f0
        by_cases hkt : k < L.length
        ·have hkt' : (k : Int) < (L.length : Int) := by omega
         obtain ⟨b, off, rfl, hbB, g0, g1, g2, g3, g4, g5⟩ := (hA.below HBI2.out).rel hkt
         have hrk := (HOK.out L[k] (List.getElem_mem hkt)).below HBI2.out
         have HX := Lib.hid (show pick ((L.map RelA.rel).take (k + 1)) m = pick ((L.map RelA.rel).take k) m ++ if (L[k]).m = m then [rline (L[k]).rel] else [] by
          rw [pick_take _ _ _ (by simpa using hkt)]
          simp [RelA.rel])
         have hlk := HLEN.out k m
         generalize L[k] = r at g0 g1 g2 g3 g4 g5 hrk HX
         have heq := fun W => eq_mod r.m.1 m.1 r.m.2.1 r.m.2.2.1 r.m.2.2.2 m.2.1 m.2.2.1 m.2.2.2 W
         by_cases hm : r.m = m
         ·subst hm
          rw [decide_eq_true (show (r.m.1, r.m.2.1, r.m.2.2.1, r.m.2.2.2) = (r.m.1, r.m.2.1, r.m.2.2.1, r.m.2.2.2) from rfl)] at heq
          have HX' := Lib.hid (show pick ((L.map RelA.rel).take (k + 1)) r.m = pick ((L.map RelA.rel).take k) r.m ++ [rline r.rel] by rw [HX.out, if_pos rfl])
          have cR := Lib.hid (refRel_any r (wi.alloc (.cells #[.string ⟨r.m.1.toArray⟩, .int .i64 r.m.2.1, .int .i64 r.m.2.2.1, .int .i64 r.m.2.2.2, .slice r.A r.l.length r.c, .slice r.A' r.s.length r.c'] 62)) (hrk.below ((Below.refl _ _).alloc (Nat.le_refl _) _)))
          have hrt := rtext_len r.rel
          have hre : rline r.rel = r.m.1 ++ [32] ++ vtext r.m.2.1 r.m.2.2.1 r.m.2.2.2 ++ [32] ++ rtext r.rel := rfl
          rw [hre] at HX'
          have hpl := hrk.ok.hm r.m (by simp)
          clear hre hrk HX
          generalize r.rel = rr at cR hrt HX'
          generalize rerr rr = E at cR
          generalize rtext rr = rt at cR hrt HX'
          have HOI := Lib.hid (howi.alloc (.cells #[.string ⟨r.m.1.toArray⟩, .int .i64 r.m.2.1, .int .i64 r.m.2.2.1, .int .i64 r.m.2.2.2, .slice r.A r.l.length r.c, .slice r.A' r.s.length r.c'] 62))
          clear howi
          have b0 : (pre ++ pick ((L.map RelA.rel).take k) r.m).length + 1 ≤ maxLen := by unfold maxLen; omega
          have b1 : ((pre ++ pick ((L.map RelA.rel).take k) r.m).length + 1) * 16 ≤ 140737488355328 := by omega
          have HPX := Lib.hid (show strs (pre ++ pick ((L.map RelA.rel).take (k + 1)) r.m) = strs (pre ++ pick ((L.map RelA.rel).take k) r.m) ++ [.string ⟨(r.m.1 ++ [32] ++ vtext r.m.2.1 r.m.2.2.1 r.m.2.2.2 ++ [32] ++ rt).toArray⟩] by rw [HX'.out, ← List.append_assoc]; exact strs_snoc _ _)
          have HPL := Lib.hid (show (pre ++ pick ((L.map RelA.rel).take (k + 1)) r.m).length = (pre ++ pick ((L.map RelA.rel).take k) r.m).length + 1 by rw [HX'.out]; simp; omega)
          clear HX'
          generalize pre ++ pick ((L.map RelA.rel).take k) r.m = Y at hlk HOI b0 b1 HPX HPL hnei ⊢
          go_wp2_with (go_at_call 25; refine cR.out.mono ?_; rintro e w4 ⟨rfl, hb4⟩)
          have hb4' := ((Below.refl wi.heap.size wi).alloc (Nat.le_refl _) (.cells #[.string ⟨r.m.1.toArray⟩, .int .i64 r.m.2.1, .int .i64 r.m.2.2.1, .int .i64 r.m.2.2.2, .slice r.A r.l.length r.c, .slice r.A' r.s.length r.c'] 62)).trans (hb4.mono (by simp))
          have e0 := cell_keep hb4' f0
          have e1 := cell_keep hb4' f1
          have e2 := cell_keep hb4' f2
          have e3 := cell_keep hb4' f3
          have z4 := hb4'.size
          have HO1 := Lib.hid (HOI.out.below hb4)
          have HB4 := Lib.hid hb4'
          clear hb4 hb4' HOI cR f0 f1 f2 f3 p0 p1 p2 p3 g0 g1 g2 g3 g4 g5
          have cV := Lib.hid (fun W => refvText_any r.m.2.1 r.m.2.2.1 r.m.2.2.2 W)
          have lt := vtext_len r.m.2.1 r.m.2.2.1 r.m.2.2.2
          generalize vtext r.m.2.1 r.m.2.2.1 r.m.2.2.2 = t at cV lt HPX
          have n1 : ¬ 9223372036854775807 < r.m.1.length + 1 := by omega
          have n2 : ¬ 9223372036854775807 < r.m.1.length + 1 + t.length := by omega
          have n3 : ¬ 9223372036854775807 < r.m.1.length + 1 + t.length + 1 := by omega
          have n4 : ¬ 9223372036854775807 < r.m.1.length + 1 + t.length + 1 + rt.length := by omega
          go_region_held3 (fun W => W.cell? ⟨g, 0, none⟩ = some (.string ⟨r.m.1.toArray⟩) ∧ W.cell? ⟨g, 1, none⟩ = some (.int .i64 r.m.2.1) ∧ W.cell? ⟨g, 2, none⟩ = some (.int .i64 r.m.2.2.1) ∧ W.cell? ⟨g, 3, none⟩ = some (.int .i64 r.m.2.2.2))
           (first | (simp; done) | (go_split_ands; (repeat' apply And.intro) <;> (first | assumption | (apply cell_keep; assumption; assumption) | (apply cell_keep_alloc; assumption) | (apply own_keep; assumption; assumption; assumption))))
           (first | (go_at_call 81; refine (cV.out _).mono ?_; rintro e w5 ⟨rfl, hb5⟩; have HO2 := Lib.hid (Acc.below (w := w4.drew) HO1.out hb5); have z5 := hb5.size; simp at z5) | (refine step_app _ rfl (.tmp 73) (.tmp 84) 79 rfl w2.heap.size 9 1 16 elStr (.slice A7 Y.length c7) Y.length _ rfl (HO2.out.alloc _) _ 1 _ _ rfl (Src.lit _ 1 _ _ 1 rfl) (by simp [Value.oneCell']) b0 b1 (by simp; omega) ?_; intro v' w6 hacc6 hgrow6 hb6 _ hor6))
          rename_i hh
          obtain ⟨hh0, hh1, hh2, hh3⟩ := hh
          have ee : (({ data := r.m.1.toArray } : ByteArray) ++ { data := #[32] } ++ { data := t.toArray } ++ { data := #[32] } ++ { data := rt.toArray }) = ⟨(r.m.1 ++ [32] ++ t ++ [32] ++ rt).toArray⟩ := by
           rw [show ({ data := #[32] } : ByteArray) = ⟨([32] : List UInt8).toArray⟩ from rfl]
           simp only [ByteArray.mk_append_mk]
          rw [ee] at hacc6
          have HV := Lib.hid (show some g ≠ v'.ownBlock from fun e => by
           rcases hor6 with h | ⟨g', h, hg'⟩
           ·rw [h] at e; exact hnei e
           ·rw [h] at e
            simp at e hg'
            omega)
          have HBF := Lib.hid ((((HBI.out.trans (HB4.out.mono hbiz)).drew.trans (hb5.mono (by simp; omega))).alloc (by omega) _).trans hb6)
          have HACC := Lib.hid hacc6
          clear hacc6 hgrow6 hb6 hor6 hb5 ee HO2
          go_wp2
          go_roundw
          case rel => exact ⟨k + 1, by omega, by go_num, by rw [HPX.out, HPL.out]; exact HACC.out, HV.out, hh0, hh1, hh2, hh3, HBF.out⟩
          case measure => simp [intOf]; omega
         ·rw [decide_eq_false (show ¬ (r.m.1, r.m.2.1, r.m.2.2.1, r.m.2.2.2) = (m.1, m.2.1, m.2.2.1, m.2.2.2) from hm)] at heq
          have HX' := Lib.hid (show pick ((L.map RelA.rel).take (k + 1)) m = pick ((L.map RelA.rel).take k) m by rw [HX.out, if_neg hm]; simp)
          have HOI := Lib.hid (howi.alloc (.cells #[.string ⟨r.m.1.toArray⟩, .int .i64 r.m.2.1, .int .i64 r.m.2.2.1, .int .i64 r.m.2.2.2, .slice r.A r.l.length r.c, .slice r.A' r.s.length r.c'] 62))
          clear HX hm hrk howi
          go_wp2
          go_roundw
          case rel => exact ⟨k + 1, by omega, by go_num, by rw [HX'.out]; exact HOI.out, hnei, cell_keep_alloc (.cells #[.string ⟨r.m.1.toArray⟩, .int .i64 r.m.2.1, .int .i64 r.m.2.2.1, .int .i64 r.m.2.2.2, .slice r.A r.l.length r.c, .slice r.A' r.s.length r.c'] 62) f0, cell_keep_alloc (.cells #[.string ⟨r.m.1.toArray⟩, .int .i64 r.m.2.1, .int .i64 r.m.2.2.1, .int .i64 r.m.2.2.2, .slice r.A r.l.length r.c, .slice r.A' r.s.length r.c'] 62) f1, cell_keep_alloc (.cells #[.string ⟨r.m.1.toArray⟩, .int .i64 r.m.2.1, .int .i64 r.m.2.2.1, .int .i64 r.m.2.2.2, .slice r.A r.l.length r.c, .slice r.A' r.s.length r.c'] 62) f2, cell_keep_alloc (.cells #[.string ⟨r.m.1.toArray⟩, .int .i64 r.m.2.1, .int .i64 r.m.2.2.1, .int .i64 r.m.2.2.2, .slice r.A r.l.length r.c, .slice r.A' r.s.length r.c'] 62) f3, hbi.alloc hbiz _⟩
          case measure => simp [intOf]; omega
        ·have hkt' : ¬ (k : Int) < (L.length : Int) := by omega
         have HX := Lib.hid (show picks (L.map RelA.rel) (M.take (j + 1)) = pre ++ pick ((L.map RelA.rel).take k) m by rw [HPT.out, List.take_of_length_le (by simp; omega)])
         go_wp2
         go_roundw
         case rel => exact ⟨j + 1, by omega, by go_num, by rw [HX.out]; exact howi, HA'.out, HBI.out⟩
         case measure => simp [intOf]; omega
      ·have hnd : ¬ ((L.map RelA.rel).map (·.1)).Nodup := fun h => (HT.out rfl) (by rw [List.map_id]; exact HPM.out.nodup_iff.2 h)
       have HLE := Lib.hid (lerr_dup _ hfe.out hnd)
       have HLO := Lib.hid (lout_ne (L.map RelA.rel) (by rw [HLE.out]; decide))
       clear hnd HT HF
       go_wp2
       show R (.returned (.tuple #[.slice none 0 0, .int .i64 6])) _
       rw [← HR.out, HLE.out, HLO.out]
       exact ⟨none, 0, rfl, .inl rfl, hB2.out.trans ((HBW.out.trans (HBY.out.mono hW0z)).mono hB2.out.size)⟩
    ·have hjt' : ¬ (j : Int) < (L.length : Int) := by omega
     obtain rfl : j = M.length := by omega
     have hnd : M.Nodup := by
      have := keyed_nodup (f := id) mlt_swo mlt_total (fun a b c h => by obtain rfl : a = b := h; rfl) HSM.out (fun i h => HA.out i (by omega) h)
      rwa [List.map_id] at this
     have HLE := Lib.hid (lerr_ok _ hfe.out (HPM.out.nodup_iff.1 hnd))
     have HLO := Lib.hid (HPK.out HLE.out)
     rw [List.take_length, HLO.out] at hown
     obtain ⟨_, hSx⟩ := hown.strs_
     have hpe : (picks (L.map RelA.rel) (M.take M.length)).length = (lout (L.map RelA.rel)).length := by rw [List.take_length, HLO.out]
     rw [hpe]
     go_wp2
     show R (.returned (.tuple #[.slice A6 (lout (L.map RelA.rel)).length c6, .int .i64 0])) _
     rw [← HR.out, HLE.out]
     exact ⟨A6, c6, rfl, hSx, hB2.out.trans (hbq.mono hB2.out.size)⟩
end Go.Proofs.YthcgihgajdjfoaaGreatDoor
