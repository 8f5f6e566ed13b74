/- What the claim needs of: WX Fcl. -/
import Derived.Test.YthcgihgajdjfoaaGreatDoorV15
import Derived.Test.YthcgihgajdjfoaaGreatDoorV17
namespace Go.Proofs.YthcgihgajdjfoaaGreatDoor
open Go.RowKit Go.Sort
def RetList (w : World) (x : List (List UInt8)) (E : Int) (e : Ending) (w' : World) : Prop :=
 ∃ A c, e = .returned (.tuple #[.slice A x.length c, .int .i64 E]) ∧ Sl w' w'.heap.size 1 encS A x ∧ Below w.heap.size w w' ∧ ∀ a, A = some a → w.heap.size ≤ a.block
theorem rtext_len (r : Rel) : (rtext r).length ≤ 18 := by
 unfold rtext
 split
 ·exact Nat.le_of_eq (dtext_len _)
 ·simp
theorem mul56 (k : Nat) (h : k ≤ 1099511627776) : (k + 1) * 56 ≤ 140737488355328 := by omega
def ents (L : List RelA) : List Ent := L.map fun r => entOf r.rel
theorem ents_take (L : List RelA) (k : Nat) (h : k < L.length) : (ents (L.take (k + 1))).flatMap encE = (ents (L.take k)).flatMap encE ++ encE (entOf L[k].rel) := by
 unfold ents
 rw [List.take_succ_eq_append_getElem h, List.map_append, List.flatMap_append]
 simp
theorem own_keep {w w' : World} {row : Option Nat} {p : Addr} {v : Value} (hg : w.grownBy w' row) (hne : some p.block ≠ row) (h : w.cell? p = some v) : w'.cell? p = some v := hg.cell h hne
theorem own_below {w w' : World} {base e size n : Nat} {v : Value} {xs : List Value} (h : w.ownsRow base e size v n xs) (hb : Below w.heap.size w w') : w'.ownsRow base e size v n xs :=
 h.kept (row := none) (grownBy_of_below hb none) (by rcases hv : v.ownBlock with _ | _ <;> simp)
set_option maxRecDepth 100000 in
set_option maxHeartbeats 4000000 in
theorem List_any (A : Option Addr) (c : Nat) (L : List RelA) (w : World) (hA : Sl w w.heap.size 6 encR A L) (hok : ∀ r ∈ L, RelOk w r) (hl : L.length ≤ 1000000) (hG : Glob w) :
  Calls Tryz.prog 37 #[.slice A L.length c] w (RetList w (lout (L.map RelA.rel)) (lerr (L.map RelA.rel))) := by
 have HOK := Lib.hid hok
 have HG := Lib.hid hG
 clear hok hG
 generalize hR : RetList w (lout (L.map RelA.rel)) (lerr (L.map RelA.rel)) = R
 have HR := Lib.hid hR
 clear hR
 go_enter Tryz.func37, Tryz.ntmps37
 go_wp2
 go_loopw [4, 15] (fun v i wr => ∃ k, k ≤ L.length ∧ i = .int .i64 (k : Nat) ∧ wr.ownsRow w.heap.size 126 5 v k ((ents (L.take k)).flatMap encE) ∧ Hid (∀ j, j < k → ∀ hj : j < L.length, rerr L[j].rel = 0) ∧ Below w.heap.size w wr)
  (fun _ i _ => L.length - (intOf i).toNat)
 case atStart => exact ⟨0, Nat.zero_le _, rfl, World.ownsRow_nil _ _ _ _, fun j h => by omega, Below.refl _ _⟩
 case round =>
  obtain ⟨k, hk, rfl, hown, HZ, hb⟩ := hrel
  obtain ⟨A4, c4, rfl⟩ := Acc.shape (.inl hown)
  have hbz := hb.size
  by_cases hlt : k < L.length
  ·have hlt' : (k : Int) < (L.length : Int) := by omega
   obtain ⟨b, off, rfl, hbB, g0, g1, g2, g3, g4, g5⟩ := (hA.below hb).rel hlt
   have hrk := (HOK.out L[k] (List.getElem_mem hlt)).below hb
   have HN := Lib.hid (ents_take L k hlt)
   have HE := Lib.hid (fun h => ferr_at (L.map RelA.rel) k (by simpa using hlt) (fun j hj => by have := HZ.out j hj (by omega); simpa using this) (by simpa using h) : rerr L[k].rel ≠ 0 → _)
   have HZ' := Lib.hid (fun h => (fun j hj hjl => by
    rcases (show j < k ∨ j = k by omega) with h' | rfl
    ·exact HZ.out j h' hjl
    ·exact h : ∀ j, j < k + 1 → ∀ hj : j < L.length, rerr L[j].rel = 0) : rerr L[k].rel = 0 → _)
   have hget := Lib.hid (show (L.map RelA.rel)[k]'(by simpa using hlt) = L[k].rel by simp)
   have HE' := Lib.hid (fun (h : rerr L[k].rel ≠ 0) => (HE.out h).trans (congrArg rerr hget.out))
   clear HE hget
   generalize L[k] = r at g0 g1 g2 g3 g4 g5 hrk HN HE' HZ'
   have hpl := hrk.hm r.m (by simp)
   have cR := Lib.hid (relA_any r (wr.alloc (.cells #[.string ⟨r.m.1.toArray⟩, .int .i64 r.m.2.1, .int .i64 r.m.2.2.1, .int .i64 r.m.2.2.2, .slice r.A r.l.length r.c, .slice r.A' r.s.length r.c'] 62)) (hrk.below ((Below.refl _ _).alloc (Nat.le_refl _) _)) ((HG.out.keep hb).alloc _))
   have hrt := rtext_len r.rel
   have hre : entOf r.rel = (r.m, r.m.1 ++ [32] ++ vtext r.m.2.1 r.m.2.2.1 r.m.2.2.2 ++ [32] ++ rtext r.rel) := rfl
   rw [hre] at HN
   clear hre hrk
   generalize r.rel = rr at cR hrt HN HE' HZ'
   generalize rerr rr = E at cR HE' HZ'
   generalize rtext rr = rt at cR hrt HN
   by_cases hE : E = 0
   ·have HZ2 := Lib.hid (HZ'.out hE)
    clear HZ' HE'
    subst hE
    go_wp2_with (go_at_call 27; refine cR.out.mono ?_; rintro e w1 ⟨rfl, hb1⟩; have q0 := (Blk.new wr 62 #[.string ⟨r.m.1.toArray⟩, .int .i64 r.m.2.1, .int .i64 r.m.2.2.1, .int .i64 r.m.2.2.2, .slice r.A r.l.length r.c, .slice r.A' r.s.length r.c']).keep hb1; have k0 := q0.cell 0; have k1 := q0.cell 1; have k2 := q0.cell 2; have k3 := q0.cell 3; simp at k0 k1 k2 k3; clear q0)
    have z1 := hb1.size
    simp at z1
    have hown1 := own_below (hown.alloc (.cells #[.string ⟨r.m.1.toArray⟩, .int .i64 r.m.2.1, .int .i64 r.m.2.2.1, .int .i64 r.m.2.2.2, .slice r.A r.l.length r.c, .slice r.A' r.s.length r.c'] 62)) hb1
    have hB1 := Lib.hid ((hb.alloc hbz (.cells #[.string ⟨r.m.1.toArray⟩, .int .i64 r.m.2.1, .int .i64 r.m.2.2.1, .int .i64 r.m.2.2.2, .slice r.A r.l.length r.c, .slice r.A' r.s.length r.c'] 62)).trans (hb1.mono (by simp; omega)))
    have hne : some w1.heap.size ≠ (Value.slice A4 k c4).ownBlock := fun e => by have := (hown1.lt _ e.symm).2; omega
    have cV := Lib.hid (fun W (hW : Glob W) => vText_any r.m.2.1 r.m.2.2.1 r.m.2.2.2 W hW)
    have hG1 := Lib.hid (((HG.out.keep hB1.out).alloc (.cells #[.string ⟨r.m.1.toArray⟩, .int .i64 r.m.2.1, .int .i64 r.m.2.2.1, .int .i64 r.m.2.2.2] 26)).drew)
    have lt := vtext_len r.m.2.1 r.m.2.2.1 r.m.2.2.2
    generalize vtext r.m.2.1 r.m.2.2.1 r.m.2.2.2 = t at cV lt HN
    have n1 : ¬ 9223372036854775807 < r.m.1.length + 1 := by omega
    have n2 : ¬ 9223372036854775807 < r.m.1.length + 1 + t.length := by omega
    have n3 : ¬ 9223372036854775807 < r.m.1.length + 1 + t.length + 1 := by omega
    have n4 : ¬ 9223372036854775807 < r.m.1.length + 1 + t.length + 1 + rt.length := by omega
    have b0 : k + 1 ≤ maxLen := by unfold maxLen; omega
    have b1 := mul56 k (by omega)
    have HO := Lib.hid (hown1.alloc (.cells #[.string ⟨r.m.1.toArray⟩, .int .i64 r.m.2.1, .int .i64 r.m.2.2.1, .int .i64 r.m.2.2.2] 26))
    have H1 := Lib.hid hown1
    clear hown hown1 hb1 cR
    go_region_held3 (fun W => W.cell? ⟨w1.heap.size, 0, none⟩ = some (.string ⟨r.m.1.toArray⟩) ∧ W.cell? ⟨w1.heap.size, 1, none⟩ = some (.int .i64 r.m.2.1) ∧ W.cell? ⟨w1.heap.size, 2, none⟩ = some (.int .i64 r.m.2.2.1) ∧ W.cell? ⟨w1.heap.size, 3, none⟩ = some (.int .i64 r.m.2.2.2))
     (first | (simp; done) | (go_split_ands; (repeat' apply And.intro) <;> (first | assumption | (apply cell_keep; assumption; assumption) | (apply cell_keep_alloc; assumption) | (apply own_keep; assumption; assumption; assumption))))
     (first | (refine step_own rfl (.tmp 30) (.tmp 43) rfl w.heap.size elEnt (.slice A4 k c4) k _ rfl (HO2.out.alloc _) _ 1 1 _ rfl (Src.lit _ 5 _ _ 1 rfl) (by decide) (by simp [Value.oneCell']) b0 b1 (by simp; omega) ?_; intro v' w3 hown3 hgrow3 hb3) | (go_at_call 78; refine (cV.out _ hG1.out).mono ?_; rintro e w2 ⟨rfl, hb2⟩; have HO2 := Lib.hid (own_below (w := (w1.alloc _).drew) HO.out hb2); have z2 := hb2.size; simp at z2))
    have e1 : (({ data := r.m.1.toArray } : ByteArray) ++ { data := #[32] } ++ { data := t.toArray } ++ { data := #[32] } ++ { data := rt.toArray }) = ⟨(r.m.1 ++ [32] ++ t ++ [32] ++ rt).toArray⟩ := by
     rw [show ({ data := #[32] } : ByteArray) = ⟨([32] : List UInt8).toArray⟩ from rfl]
     simp only [ByteArray.mk_append_mk]
    rw [e1] at hown3
    have hz1 := hB1.out.size
    have hB3 := Lib.hid ((((hB1.out.alloc hz1 _).drew.trans (hb2.mono (by simp; omega))).alloc (by omega) _).trans hb3)
    have HO3 := Lib.hid hown3
    clear hown3 hb2 hb3 hgrow3 e1 HO2
    go_wp2
    go_roundw
    case rel => exact ⟨k + 1, by omega, by go_num, by rw [HN.out]; exact HO3.out, HZ2.out, hB3.out⟩
    case measure => simp [intOf]; omega
   ·have hE' : (E != 0) = true := by simpa using hE
    have hfe := HE'.out hE
    have hle := Lib.hid (show lerr (L.map RelA.rel) = E by unfold lerr; rw [hfe, if_pos hE])
    have hlo := Lib.hid (show lout (L.map RelA.rel) = [] by unfold lout; rw [hle.out, if_neg hE])
    clear HZ' HE' hE hfe
    go_wp2_with (go_at_call 27; refine cR.out.mono ?_; rintro e w1 ⟨rfl, hb1⟩)
    show R (.returned (.tuple #[.slice none 0 0, .int .i64 E])) w1
    rw [← HR.out, hle.out, hlo.out]
    exact ⟨none, 0, rfl, .inl rfl, (hb.alloc hbz _).trans (hb1.mono (by simp; omega)), by simp⟩
  ·have hlt' : ¬ (k : Int) < (L.length : Int) := by omega
   obtain rfl : k = L.length := by omega
   have hfe := ferr_none (L.map RelA.rel) (fun j hj => by simpa using HZ.out j (by simpa using hj) (by simpa using hj))
   have hnr : NewRowK wr w.heap.size 126 5 encE (.slice A4 L.length c4) (ents L) := NewRowK.of_owns (by
    have h := hown
    rw [List.take_of_length_le (Nat.le_refl _)] at h
    have e : (ents L).length = L.length := by simp [ents]
    rw [e]; exact h)
   have hel : (ents L).length = L.length := by simp [ents]
   have cS := Lib.hid (sortE_any (.slice A4 L.length c4) (ents L) wr w.heap.size hnr (by omega))
   clear hown hnr
   go_wp2_with (go_at_call 79; refine cS.out.mono ?_; rintro e w2 ⟨rfl, ⟨A2, c2, l', h2, hcap, hp, hs, hsl⟩, hb2⟩; have HP := Lib.hid hp; have HS := Lib.hid hs; have HE := Lib.hid h2; clear hp hs h2)
   have hEE := HE.out
   injection hEE with e1 e2 e3
   subst e1
   clear e2 e3 HE cS
   have hll := HP.out.length_eq
   have hB2 := Lib.hid (hb.trans hb2)
   clear hb2
   have hfe := Lib.hid hfe
   have hkeys := Lib.hid (ents_keys (L.map RelA.rel))
   have hents : ents L = (L.map RelA.rel).map entOf := by simp [ents]
   have hlen : L.length = l'.length := by omega
   have hsmall : l'.length ≤ 1000000 := by omega
   rw [hents] at HP
   clear hents hel hll hcap
   rw [hlen]
   go_loopw [10, 50] (fun v i wr2 => ∃ k, k ≤ l'.length ∧ i = .int .i64 (k : Nat) ∧ wr2.ownsRow w2.heap.size 9 1 v k (strs ((l'.take k).map (·.2))) ∧ Hid (∀ j, j + 1 < k → ∀ h : j + 1 < l'.length, l'[j].1 ≠ l'[j + 1].1) ∧ Below w2.heap.size w2 wr2)
    (fun _ i _ => l'.length - (intOf i).toNat)
   case atStart => exact ⟨0, Nat.zero_le _, rfl, World.ownsRow_nil _ _ _ _, fun j h => by omega, Below.refl _ _⟩
   case round =>
    obtain ⟨k, hk, rfl, hacc, HA, hbq⟩ := hrel
    obtain ⟨A5, c5, rfl⟩ := Acc.shape (.inl hacc)
    have hbqz := hbq.size
    by_cases hlt2 : k < l'.length
    ·have hlt2' : (k : Int) < (l'.length : Int) := by omega
     obtain ⟨b, off, rfl, hbB, g0, g1, g2, g3, g4⟩ := (hsl.below hbq).ent hlt2
     have HN := Lib.hid (show strs ((l'.take (k + 1)).map (·.2)) = strs ((l'.take k).map (·.2)) ++ [.string ⟨(l'[k]).2.toArray⟩] by rw [List.take_succ_eq_append_getElem hlt2, List.map_append]; exact strs_snoc _ _)
     have b0 : k + 1 ≤ maxLen := by unfold maxLen; omega
     have b1 : (k + 1) * 16 ≤ 140737488355328 := by omega
     rcases Nat.eq_zero_or_pos k with hz | hpos
     ·have hz' : ¬ (0 : Int) < (k : Int) := by omega
      have hzd : decide ((0 : Int) < (k : Int)) = false := decide_eq_false hz'
      have HA' := Lib.hid (show ∀ j, j + 1 < k + 1 → ∀ h : j + 1 < l'.length, l'[j].1 ≠ l'[j + 1].1 from fun j hj => by omega)
      have hzn : decide (0 < k) = false := decide_eq_false (by omega)
      clear hz hz'
      generalize l'[k] = x at g0 g1 g2 g3 g4 HN
      go_wp2
      go_quiet (fail)
      go_upto_region 18 with fail
      have hcx : (((wr.alloc (.cells #[.string ⟨x.1.1.toArray⟩, .int .i64 x.1.2.1, .int .i64 x.1.2.2.1, .int .i64 x.1.2.2.2, .string ⟨x.2.toArray⟩] 126)).drewN nq)).cell? ⟨wr.heap.size, 4, none⟩ = some (.string ⟨x.2.toArray⟩) := by simp
      have haccW : (((wr.alloc (.cells #[.string ⟨x.1.1.toArray⟩, .int .i64 x.1.2.1, .int .i64 x.1.2.2.1, .int .i64 x.1.2.2.2, .string ⟨x.2.toArray⟩] 126)).drewN nq)).ownsRow w2.heap.size 9 1 (.slice A5 k c5) k (strs ((l'.take k).map (·.2))) := hacc.alloc _
      have hbW := (hbq.alloc hbqz (.cells #[.string ⟨x.1.1.toArray⟩, .int .i64 x.1.2.1, .int .i64 x.1.2.2.1, .int .i64 x.1.2.2.2, .string ⟨x.2.toArray⟩] 126)).drewN nq
      have hW3 := hbW.size
      generalize (wr.alloc (.cells #[.string ⟨x.1.1.toArray⟩, .int .i64 x.1.2.1, .int .i64 x.1.2.2.1, .int .i64 x.1.2.2.2, .string ⟨x.2.toArray⟩] 126)).drewN nq = W3 at hcx haccW hbW hW3 ⊢
      go_wp2_with (at_builtin; refine wpList_own rfl (.tmp 68) (.tmp 71) rfl w2.heap.size elStr (.slice A5 k c5) k _ rfl (haccW.alloc _) _ 1 1 _ rfl (Src.lit _ 1 _ _ 1 rfl) (by decide) (by simp [Value.oneCell']) b0 b1 (by simp; omega) ?_; intro v' w3 hacc3 _ hb3)
      go_roundw
      case rel => exact ⟨k + 1, by omega, by go_num, by rw [HN.out]; exact hacc3, HA'.out, (hbW.alloc hW3 _).trans hb3⟩
      case measure => simp [intOf]; omega
     ·obtain ⟨b', off', hA', hbB', f0, f1, f2, f3, _⟩ := (hsl.below hbq).ent (i := k - 1) (by omega)
      injection hA' with hA'
      injection hA' with h1 h2
      subst h1 h2
      have hzn : decide (0 < k) = true := decide_eq_true hpos
      have HD := Lib.hid (keyed_dup (f := fun x : Ent => x.1) k hpos hlt2)
      have HS2 := Lib.hid (keyed_step (f := fun x : Ent => x.1) k hpos hlt2 HA.out)
      have hk1 : (k : Int) - 1 + 1 = k := by omega
      clear hk1
      generalize l'[k] = x at g0 g1 g2 g3 g4 HN HD HS2
      generalize l'[k - 1] = y at f0 f1 f2 f3 HD HS2
      have e0 := cell_keep_alloc (.cells #[.string ⟨x.1.1.toArray⟩, .int .i64 x.1.2.1, .int .i64 x.1.2.2.1, .int .i64 x.1.2.2.2, .string ⟨x.2.toArray⟩] 126) f0
      have e1 := cell_keep_alloc (.cells #[.string ⟨x.1.1.toArray⟩, .int .i64 x.1.2.1, .int .i64 x.1.2.2.1, .int .i64 x.1.2.2.2, .string ⟨x.2.toArray⟩] 126) f1
      have e2 := cell_keep_alloc (.cells #[.string ⟨x.1.1.toArray⟩, .int .i64 x.1.2.1, .int .i64 x.1.2.2.1, .int .i64 x.1.2.2.2, .string ⟨x.2.toArray⟩] 126) f2
      have e3 := cell_keep_alloc (.cells #[.string ⟨x.1.1.toArray⟩, .int .i64 x.1.2.1, .int .i64 x.1.2.2.1, .int .i64 x.1.2.2.2, .string ⟨x.2.toArray⟩] 126) f3
      have heq := fun W => eq_mod y.1.1 x.1.1 y.1.2.1 y.1.2.2.1 y.1.2.2.2 x.1.2.1 x.1.2.2.1 x.1.2.2.2 W
      by_cases hs : y.1 = x.1
      ·have hdp := Lib.hid (HD.out hs)
       rw [decide_eq_true (show (y.1.1, y.1.2.1, y.1.2.2.1, y.1.2.2.2) = (x.1.1, x.1.2.1, x.1.2.2.1, x.1.2.2.2) from hs)] at heq
       clear HD HS2 hs f0 f1 f2 f3
       go_wp2
       go_quiet (fail)
       go_wp2
       show R (.returned (.tuple #[.slice none 0 0, .int .i64 6])) _
       have hnd : ¬ ((L.map RelA.rel).map (·.1)).Nodup := fun h => hdp.out ((HP.out.map _).nodup_iff.2 (by rw [hkeys.out]; exact h))
       have hle : lerr (L.map RelA.rel) = 6 := by unfold lerr; rw [if_neg (by rw [hfe.out]; decide), if_neg hnd]
       have hlo : lout (L.map RelA.rel) = [] := by unfold lout; rw [hle, if_neg (by decide)]
       rw [← HR.out, hle, hlo]
       exact ⟨none, 0, rfl, .inl rfl, hB2.out.trans (((hbq.alloc hbqz _).drewN nq).mono hB2.out.size), by simp⟩
      ·have HA' := Lib.hid (HS2.out hs)
       rw [decide_eq_false (show ¬ (y.1.1, y.1.2.1, y.1.2.2.1, y.1.2.2.2) = (x.1.1, x.1.2.1, x.1.2.2.1, x.1.2.2.2) from hs)] at heq
       clear HD HS2 hs f0 f1 f2 f3
       go_wp2
       go_quiet (fail)
       go_upto_region 18 with fail
       have hcx : (((wr.alloc (.cells #[.string ⟨x.1.1.toArray⟩, .int .i64 x.1.2.1, .int .i64 x.1.2.2.1, .int .i64 x.1.2.2.2, .string ⟨x.2.toArray⟩] 126)).drewN nq)).cell? ⟨wr.heap.size, 4, none⟩ = some (.string ⟨x.2.toArray⟩) := by simp
       have haccW : (((wr.alloc (.cells #[.string ⟨x.1.1.toArray⟩, .int .i64 x.1.2.1, .int .i64 x.1.2.2.1, .int .i64 x.1.2.2.2, .string ⟨x.2.toArray⟩] 126)).drewN nq)).ownsRow w2.heap.size 9 1 (.slice A5 k c5) k (strs ((l'.take k).map (·.2))) := hacc.alloc _
       have hbW := (hbq.alloc hbqz (.cells #[.string ⟨x.1.1.toArray⟩, .int .i64 x.1.2.1, .int .i64 x.1.2.2.1, .int .i64 x.1.2.2.2, .string ⟨x.2.toArray⟩] 126)).drewN nq
       have hW3 := hbW.size
       generalize (wr.alloc (.cells #[.string ⟨x.1.1.toArray⟩, .int .i64 x.1.2.1, .int .i64 x.1.2.2.1, .int .i64 x.1.2.2.2, .string ⟨x.2.toArray⟩] 126)).drewN nq = W3 at hcx haccW hbW hW3 ⊢
       go_wp2_with (at_builtin; refine wpList_own rfl (.tmp 68) (.tmp 71) rfl w2.heap.size elStr (.slice A5 k c5) k _ rfl (haccW.alloc _) _ 1 1 _ rfl (Src.lit _ 1 _ _ 1 rfl) (by decide) (by simp [Value.oneCell']) b0 b1 (by simp; omega) ?_; intro v' w3 hacc3 _ hb3)
       go_roundw
       case rel => exact ⟨k + 1, by omega, by go_num, by rw [HN.out]; exact hacc3, HA'.out, (hbW.alloc hW3 _).trans hb3⟩
       case measure => simp [intOf]; omega
    ·have hlt2' : ¬ (k : Int) < (l'.length : Int) := by omega
     obtain rfl : k = l'.length := by omega
     go_wp2
     have hnd' : (l'.map (·.1)).Nodup := keyed_nodup elt_swo elt_key elt_cong HS.out (fun i h => HA.out i (by omega) h)
     have hnd2 : (((L.map RelA.rel).map entOf).map (·.1)).Nodup := (HP.out.map _).nodup_iff.1 hnd'
     have hnd : ((L.map RelA.rel).map (·.1)).Nodup := by rw [← hkeys.out]; exact hnd2
     have hle : lerr (L.map RelA.rel) = 0 := by unfold lerr; rw [if_neg (by rw [hfe.out]; decide), if_pos hnd]
     have hlo : lout (L.map RelA.rel) = l'.map (·.2) := by unfold lout; rw [hle, if_pos rfl]; unfold esort; rw [← keyed_unique elt_swo elt_key HP.out HS.out hnd2]
     rw [← HR.out, hle, hlo]
     have hac : Acc wr w2.heap.size 9 1 (.slice A5 l'.length c5) l'.length (strs ((l'.take l'.length).map (·.2))) := .inl hacc
     obtain ⟨hn, hS⟩ := hac.strs_
     have hbase : ∀ a, A5 = some a → w.heap.size ≤ a.block := fun a ha => Nat.le_trans hB2.out.size (hacc.lt a.block (by rw [ha]; rfl)).1
     rw [List.take_length] at hS
     exact ⟨A5, c5, by simp, hS, hB2.out.trans (hbq.mono hB2.out.size), hbase⟩
end Go.Proofs.YthcgihgajdjfoaaGreatDoor
namespace Go.Proofs.YthcgihgajdjfoaaGreatDoor
open Go.RowKit
section
variable {P : Program} {ops : Array Oper} {Q : Exit → Act → World → Prop}
def lastWaits (ops : Array Oper) : Bool := (List.range (ops.size - 1)).all fun i => waitsN ops 3 (ops.size - 1) i
def lastO : List Oper → Option Oper
 | [] => none
 | o :: l => match lastO l with
   | none => some o
   | some x => some x
def initO : List Oper → List Oper
 | [] => []
 | o :: l => match l with
   | [] => []
   | _ :: _ => o :: initO l
theorem lastO_eq : ∀ l : List Oper, lastO l = l.getLast?
 | [] => rfl
 | [o] => rfl
 | o :: x :: l => by
   have h := lastO_eq (x :: l)
   rw [List.getLast?_cons_cons, ← h]
   show (match lastO (x :: l) with | none => some o | some y => some y) = _
   cases hl : lastO (x :: l) with
   | none =>
     rw [hl] at h
     have h2 := h.symm
     rw [List.getLast?_eq_none_iff] at h2
     cases h2
   | some y => rfl
theorem initO_eq : ∀ l : List Oper, initO l = l.dropLast
 | [] => rfl
 | [o] => rfl
 | o :: x :: l => by
   show o :: initO (x :: l) = _
   rw [initO_eq (x :: l)]
   rfl
theorem wp_region_last {id : Nat} {a : Act} {w : World} (hm : P.follows .mixedOrders = true) (F : List Fact) (z : Nat) (w0 : World) (hz : z ≤ w0.heap.size) (hw : Below z w0 w.drew) (hpos0 : (ops.size == 0) = false)
  (hdis : distinct (ops.toList.map (·.dst)) = true) (hlt : dstLt ops a.tmps.size = true) (hwf : wfOps ops = true) (hlast : lastWaits ops = true)
  (hmono : AllMono F) (steps0 : AllOk P ops F z w0 a 0 (initO ops.toList) F) (hlen0 : (initO ops.toList).length = F.length) (o : Oper) (ho0 : lastO ops.toList = some o) (hg : o.guard = none)
  (fin0 : ∀ W, Below z w0 W → ∀ G : Act → Prop, (∀ A, o.wp P A W (fun A' W' => Q .normal A' W') Q → G A) → FinAll W G (initO ops.toList) F a) : (Code.region id ops true).wp P Q a w := by
 have steps := steps0
 have hlen := hlen0
 have fin := fun W hW => fin0 W hW (fun A => o.wp P A W (fun A' W' => Q .normal A' W') Q) (fun _ h => h)
 rw [initO_eq] at steps hlen
 simp only [initO_eq] at fin
 have ho : ops.toList.getLast? = some o := (lastO_eq _).symm.trans ho0
 have hpos : 0 < ops.size := by have := beq_eq_false_iff_ne.1 hpos0; omega
 have hlst : ops.toList[ops.size - 1]? = some o := by rw [← Array.length_toList, ← List.getLast?_eq_getElem?]; exact ho
 have hpre : ∀ i, i < ops.size - 1 → ops.toList.dropLast[i]? = ops.toList[i]? := fun i hi => by
  rw [List.dropLast_eq_take, List.getElem?_take]
  simp only [Array.length_toList]
  rw [if_pos hi]
 have hpre2 : ∀ i, ops.size - 1 ≤ i → ops.toList.dropLast[i]? = none := fun i hi => by
  rw [List.getElem?_eq_none_iff, List.length_dropLast, Array.length_toList]
  exact hi
 refine wp_region_each hm (fun L A W => (L.getD (ops.size - 1) false = false ∧ Held ops F z w0 a L A W) ∨ (L.size = ops.size ∧ (∀ i, i < ops.size → L.getD i false = true) ∧ Q .normal A W)) ?_ ?_ ?_ hwf ?_
 ·rintro L A W (⟨_, h⟩ | ⟨h, _⟩)
  ·exact h.size
  ·exact h
 ·refine .inl ⟨?_, by simp, hw, rfl, rfl, fun _ _ => rfl, fun _ _ _ _ => rfl, fun i e h _ => ?_, fun i d h _ => ?_⟩
  ·simp only [Array.getD_eq_getD_getElem?, Array.getElem?_replicate]
   split <;> rfl
  all_goals
   exfalso
   simp only [Array.getD_eq_getD_getElem?, Array.getElem?_replicate] at h
   split at h <;> simp at h
 ·intro i oi ho1 L A W hL hdep hI
  have hi : i < ops.size := (Array.getElem?_eq_some_iff.1 ho1).1
  rcases hI with ⟨hf, hI⟩ | ⟨hs, hall, _⟩
  rotate_left
  ·exfalso
   have h1 := hall i hi
   have : i < L.size := by rw [hs]; exact hi
   simp [this] at hL h1
   rw [hL] at h1
   cases h1
  have hLi : L.getD i false = false := by
   have : i < L.size := by rw [hI.size]; exact hi
   simpa [this] using hL
  have ho' : ops.toList[i]? = some oi := by rw [Array.getElem?_toList]; exact ho1
  have hsz : ∀ d, oi.dst = some d → d < a.tmps.size := fun d hd => by
   have := (List.all_eq_true.1 hlt) oi (List.mem_of_getElem? ho')
   rw [hd] at this
   simpa using this
  have hdirect : ∀ e, waitsFor ops i e = true → L.getD e false = true := fun e he => by
   unfold waitsFor at he
   rw [ho'] at he
   obtain ⟨x, hx, hy⟩ := List.any_eq_true.1 he
   obtain ⟨h2, h3⟩ := Bool.and_eq_true _ _ ▸ hy
   rw [Array.all_eq_true'] at hdep
   have h4 := hdep x (by simpa using hx)
   rw [h2] at h4
   have h5 : x.on = e := by simpa using h3
   rw [h5] at h4
   simpa using h4
  have hdirN : ∀ n e, waitsN ops n i e = true → L.getD e false = true := fun n e he => by
   cases n with
   | zero => exact hdirect e he
   | succ n =>
     unfold waitsN at he
     rcases Bool.or_eq_true _ _ ▸ he with h2 | h2
     ·exact hdirect e h2
     ·rw [ho'] at h2
      obtain ⟨x, hx, hy⟩ := List.any_eq_true.1 h2
      obtain ⟨h3, h4⟩ := Bool.and_eq_true _ _ ▸ hy
      refine hI.closedN n x.on e (hdirect x.on ?_) h4
      unfold waitsFor
      rw [ho']
      exact List.any_eq_true.2 ⟨x, hx, by simp [h3]⟩
  by_cases hil : i = ops.size - 1
  ·subst hil
   obtain rfl : oi = o := Option.some.inj (ho'.symm.trans hlst)
   have hall : ∀ j, j < ops.size - 1 → L.getD j false = true := fun j hj => hdirN 3 j ((List.all_eq_true.1 hlast) j (List.mem_range.2 hj))
   have hfin := finAll_of (A := A) ops.toList.dropLast F a hlen (fin W hI.below) hI.len hI.defers (fun j d hd => by
     by_cases hj : j < ops.size - 1
     ·rw [hpre j hj] at hd
      exact hI.fact j d (hall j hj) hd
     ·rw [hpre2 j (by omega)] at hd
      cases hd)
    (fun x hx => by
     by_cases hod : oi.dst = some x
     ·exact hI.late (ops.size - 1) x hf (by unfold dstOf; rw [hlst]; exact hod)
     ·refine hI.same x ?_
      unfold unwritten
      rw [List.all_eq_true] at hx ⊢
      intro y hy
      have hsp : ops.toList = ops.toList.dropLast ++ [oi] := by
       obtain ⟨ys, hys⟩ := List.getLast?_eq_some_iff.1 ho
       rw [hys]
       simp
      rw [hsp] at hy
      rcases List.mem_append.1 hy with h | h
      ·exact hx y h
      ·rw [List.mem_singleton.1 h]
       simpa using hod)
   unfold Region.wanted
   rw [hg]
   simp only [if_true]
   refine .inl (Oper.wp_mono (fun A' W' h => .inr ⟨by simpa using hI.size, fun j hj => ?_, h⟩) hfin)
   by_cases hj2 : j = ops.size - 1
   ·subst hj2
    have : ops.size - 1 < L.size := by rw [hI.size]; exact hj
    simp [this]
   ·have h1 := hall j (by omega)
    have h2 : (L.setIfInBounds (ops.size - 1) true).getD j false = L.getD j false := by simp [Array.getElem?_setIfInBounds_ne (Ne.symm hj2)]
    rw [h2]
    exact h1
  ·have hi1 : i < ops.size - 1 := by omega
   obtain ⟨f, hf2, h1⟩ := allOk_at steps ((hpre i hi1).trans ho')
   rw [Nat.zero_add] at h1
   have hfD : F.getD i nof = f := by rw [List.getD_eq_getElem?_getD, hf2]; rfl
   have hput : ∀ v W', f v W' → Below W.heap.size W W' → ((L.setIfInBounds i true).getD (ops.size - 1) false = false ∧ Held ops F z w0 a (L.setIfInBounds i true) (A.put oi.dst v) W') ∨ ((L.setIfInBounds i true).size = ops.size ∧ (∀ j, j < ops.size → (L.setIfInBounds i true).getD j false = true) ∧ Q .normal (A.put oi.dst v) W') := fun v W' hv hb =>
    .inl ⟨by simpa [Array.getElem?_setIfInBounds_ne hil] using hf, hI.put hz hmono hdis ho1 hdep hsz (by rw [hfD]; exact hv) hb⟩
   have h2 := h1 A W (fun A' W' => ((L.setIfInBounds i true).getD (ops.size - 1) false = false ∧ Held ops F z w0 a (L.setIfInBounds i true) A' W') ∨ ((L.setIfInBounds i true).size = ops.size ∧ (∀ j, j < ops.size → (L.setIfInBounds i true).getD j false = true) ∧ Q .normal A' W')) Q hI.below
    (fun x v hx hv => by rw [hI.same x hx, ← Array.getElem?_toList, ← nth_eq]; exact hv)
    (fun e d he hd => hI.fact e d (hdirN 3 e he) hd)
    (fun j d v hj hd hv => by
     rw [hI.late j d ?_ hd, ← Array.getElem?_toList, ← nth_eq]
     ·exact hv
     ·rcases Bool.or_eq_true _ _ ▸ hj with h3 | h3
      ·have : j = i := by simpa using h3
       subst this
       exact hLi
      ·cases hlj : L.getD j false with
       | false => rfl
       | true => rw [hI.closedN 3 j i hlj h3] at hLi; cases hLi)
    hput
   unfold Region.wanted
   cases hgi : oi.guard with
   | none =>
     rw [hgi] at h2
     simp only [if_true]
     exact .inl h2
   | some gw =>
     obtain ⟨g, want⟩ := gw
     rw [hgi] at h2
     obtain ⟨u, d, h3, h4, h5⟩ := h2
     have hy : (yielded ops A.tmps g == some want) = isB want u := by
      unfold yielded
      unfold dstOf at h3
      rw [← Array.getElem?_toList, h3]
      simp only [Option.bind_some, h4]
      cases u <;> first | rfl | (rename_i b; cases b <;> cases want <;> rfl)
     simp only [hy]
     cases hbb : isB want u with
     | true =>
       rw [hbb] at h5
       simp only [if_true]
       exact .inl h5
     | false =>
       rw [hbb] at h5
       simp only [Bool.false_eq_true, if_false]
       exact hput _ _ h5 (Below.refl _ _)
 ·rintro L A W hr (⟨hf, _⟩ | ⟨_, _, h⟩)
  ·have := hr (ops.size - 1) (by omega)
   rw [hf] at this
   cases this
  ·exact h
theorem fin_last {o : Oper} {W : World} {A A' : Act} {fs : List Fact} {K : Act → World → Prop} {G : Act → Prop} (h : A = A') (hG : ∀ A, o.wp P A W K Q → G A) (hq : o.wp P A' W K Q) : FinAll W G [] fs A := by
 subst h
 exact hG _ hq
end
end Go.Proofs.YthcgihgajdjfoaaGreatDoor
