/- What the claim needs of: PR WP WTx WRl. -/
import Derived.Test.YthcgihgajdjfoaaGreatDoorV9
import Derived.Test.YthcgihgajdjfoaaGreatDoorV25
import Derived.Test.YthcgihgajdjfoaaGreatDoorV15
namespace Go.Proofs.YthcgihgajdjfoaaGreatDoor
open Go.RowKit Go.Sort
def InsT (P : List Src2) (x : Src2) (a : Nat) : Prop := (∀ i, i + 1 = a → ∀ h : i < P.length, ltOf tcmp x P[i] = false) ∧ (∀ i, a ≤ i → ∀ h : i < P.length, ltOf tcmp x P[i] = true)
theorem flatT_ins (P : List Src2) (x : Src2) (a : Nat) : (P.take a ++ x :: P.drop a).flatMap encT = ((P.take a).flatMap encT ++ encT x) ++ (P.drop a).flatMap encT := by simp
theorem dup_ins {P s : List Src2} {k : Nat} (h : k < s.length) (hp : P.Perm (s.take k)) {i : Nat} (hi : i < P.length) (he : P[i].1 = s[k].1) : dupN s = true := by
 unfold dupN
 simp only [Bool.not_eq_true', decide_eq_false_iff_not]
 intro hn
 have hm : P[i] ∈ s.take k := hp.mem_iff.1 (List.getElem_mem hi)
 obtain ⟨j, hj, hje⟩ := List.mem_take_iff_getElem.1 hm
 have := nodup_inj hn (i := j) (j := k) (by simp; omega) (by simpa using h) (by simp; rw [hje, he])
 omega
theorem nodup_ins {P : List Src2} {x : Src2} {a : Nat} (ha : a ≤ P.length) (hs : P.Pairwise (leOf (ltOf tcmp))) (hn : dupN P = false) (hI : InsT P x a) (hne : ∀ i, i + 1 = a → ∀ h : i < P.length, P[i].1 ≠ x.1) : dupN (P.take a ++ x :: P.drop a) = false := by
 have hp : (P.take a ++ x :: P.drop a).Perm (x :: P) := by
  have : (P.take a ++ x :: P.drop a).Perm (x :: (P.take a ++ P.drop a)) := List.perm_middle
  rwa [List.take_append_drop] at this
 rw [dupN_perm hp]
 unfold dupN at hn ⊢
 simp only [Bool.not_eq_false', decide_eq_true_eq] at hn ⊢
 rw [List.map_cons, List.nodup_cons]
 refine ⟨fun hm => ?_, hn⟩
 obtain ⟨y, hy, hyx⟩ := List.mem_map.1 hm
 obtain ⟨i, hi, rfl⟩ := List.getElem_of_mem hy
 rcases Nat.lt_or_ge i a with hia | hia
 ·have hlast : a - 1 < P.length := by omega
  have h1 := hI.1 (a - 1) (by omega) hlast
  have h2 := hne (a - 1) (by omega) hlast
  have h3 : Op.bytesLess P[a - 1].1 x.1 = true := by
   rw [slt_eq] at h1
   cases hb : Op.bytesLess P[a - 1].1 x.1
   ·exact absurd (bl_total _ _ hb h1) h2
   ·rfl
  rcases (show i = a - 1 ∨ i < a - 1 by omega) with rfl | hlt
  ·exact h2 hyx
  ·have h4 : leOf (ltOf tcmp) P[i] P[a - 1] := List.pairwise_iff_getElem.1 hs i (a - 1) hi hlast hlt
   unfold leOf at h4
   rw [slt_eq, hyx, h3] at h4
   cases h4
 ·have h1 := hI.2 i hia hi
  rw [slt_eq, hyx, bl_irrefl] at h1
  cases h1
theorem insT_sorted {P : List Src2} {x : Src2} {a : Nat} (ha : a ≤ P.length) (hs : P.Pairwise (leOf (ltOf tcmp))) (hI : InsT P x a) : (P.take a ++ x :: P.drop a).Pairwise (leOf (ltOf tcmp)) := ins_sorted tlt_swo P x a ha hs hI.1 hI.2
theorem srcLines_len (l : List Src2) (n : Nat) (h : ∀ x ∈ l, x.1.length ≤ n) : (l.flatMap srcLine).length ≤ l.length * (4 * n + 22) := by
 induction l with
 | nil => simp
 | cons a l ih =>
   have h1 := ih (fun x hx => h x (by simp [hx]))
   have h2 := qtext_len a.1
   have h3 := h a (by simp)
   have h4 : (srcLine a).length ≤ 4 * n + 22 := by
    unfold srcLine
    simp [dtext, hexs_length]
    omega
   simp only [List.flatMap_cons, List.length_append, List.length_cons, Nat.add_mul, Nat.one_mul]
   omega
end Go.Proofs.YthcgihgajdjfoaaGreatDoor
namespace Go.Proofs.YthcgihgajdjfoaaGreatDoor
open Go.RowKit Go.Sort
theorem refSorted_any (A : Option Addr) (c : Nat) (l : List Mod) (w : World) (hA : Sl w w.heap.size 4 encM A l) (hl : l.length ≤ 1099511627776) :
  Calls Tryz.prog 77 #[.slice A l.length c] w fun e w' => ∃ A' c', e = .returned (.slice A' l.length c') ∧ Sl w' w'.heap.size 4 encM A' (msort l) ∧ Below w.heap.size w w' :=
 (refSorted_far A c l w hA hl).mono fun _ _ ⟨A', c', h1, _, h2, h3⟩ => ⟨A', c', h1, h2, h3⟩
end Go.Proofs.YthcgihgajdjfoaaGreatDoor
namespace Go.Proofs.YthcgihgajdjfoaaGreatDoor
open Go.RowKit Go.Sort
set_option maxRecDepth 100000 in
set_option maxHeartbeats 4000000 in
theorem refmText_any (m : Mod) (A : Option Addr) (c : Nat) (l : List Mod) (w : World) (hA : Sl w w.heap.size 4 encM A l) (hl : l.length ≤ 1099511627776) (hs : ∀ x ∈ m :: l, x.1.length ≤ 1099511627776) :
  Calls Tryz.prog 56 #[.agg #[.string ⟨m.1.toArray⟩, .int .i64 m.2.1, .int .i64 m.2.2.1, .int .i64 m.2.2.2, .slice A l.length c]] w fun e w' => e = .returned (.tuple #[.string ⟨(mtext m l).toArray⟩, .int .i64 (mcheck m l)]) ∧ Below w.heap.size w w' := by
 have cc := Lib.hid (refCheck_any m A c l (w.alloc (.cells #[.string ⟨m.1.toArray⟩, .int .i64 m.2.1, .int .i64 m.2.2.1, .int .i64 m.2.2.2, .slice A l.length c] 29)) ((hA.below ((Below.refl _ _).alloc (Nat.le_refl _) _)).more (by simp)) hl hs)
 have HA := Lib.hid hA
 have hok := Lib.hid (mcheck_ok m l)
 have hmt := Lib.hid (mtext.eq_1 m l)
 have cl1 := Lib.hid (fun (W : World) (h : m.1.length ≤ 60) => refline_any wMod m.1 m.2.1 m.2.2.1 m.2.2.2 W (by decide) (by omega))
 clear hA
 generalize mcheck m l = E at cc hok hmt ⊢
 by_cases hE : E = 0
 ·subst hE
  obtain ⟨hl64, hp⟩ := hok.out rfl
  have hmt' := Lib.hid (show mtext m l = lineM wMod m ++ linesM (msort l) by rw [hmt.out]; rfl)
  clear hmt hok
  have cs := Lib.hid (fun (W : World) (hW : Below w.heap.size w W) => refSorted_any A c l W ((HA.out.below hW).more hW.size) hl)
  go_enter Tryz.func56, Tryz.ntmps56
  go_wp2_with (first
   | (go_at_call 73; refine cc.out.mono ?_; rintro e w1 ⟨rfl, hb1⟩;
      have q0 := (Blk.new w 29 #[.string ⟨m.1.toArray⟩, .int .i64 m.2.1, .int .i64 m.2.2.1, .int .i64 m.2.2.2, .slice A l.length c]).keep hb1;
      have hB1 := Lib.hid (((Below.refl w.heap.size w).alloc (Nat.le_refl _) _).trans (hb1.mono (by simp))); clear hb1;
      have k0 := q0.cell 0; have k1 := q0.cell 1; have k2 := q0.cell 2; have k3 := q0.cell 3; simp at k0 k1 k2 k3; have hq0 := Lib.hid q0; clear q0)
   | (go_at_call 100; refine (cl1.out _ (hp m (by simp))).mono ?_; rintro e w2 ⟨rfl, hb2⟩;
      have q2 := hq0.out.keep hb2; have hB2 := Lib.hid (hB1.out.trans (hb2.mono hB1.out.size)); clear hb2;
      have j0 := q2.cell 0; have j1 := q2.cell 1; have j2 := q2.cell 2; have j3 := q2.cell 3; have j4 := q2.cell 4; simp at j0 j1 j2 j3 j4; clear q2)
   | (go_at_call 77; refine (cs.out _ hB2.out).mono ?_; rintro e w3 ⟨A3, c3, rfl, hS3, hb3⟩; have hB3 := Lib.hid (hB2.out.trans (hb3.mono hB2.out.size)); clear hb3))
  have hll := msort_len l
  have hsm := Lib.hid (fun x (hx : x ∈ msort l) => hp x (by simp; exact .inr ((List.mergeSort_perm l _).mem_iff.1 hx)))
  have hsz3 := hB3.out.size
  generalize msort l = L at hS3 hll hsm hmt' ⊢
  have hlm := lineM_len wMod m (by decide) (hp m (by simp))
  clear cc cs cl1
  have e0 : ({ data := (lineT wMod m.1 m.2.1 m.2.2.1 m.2.2.2).toArray } : ByteArray) = { data := (lineM wMod m).toArray } := rfl
  rw [e0]
  clear e0
  go_wp2
  go_loopw [5, 20] (fun v i wr => ∃ k, k ≤ L.length ∧ i = .int .i64 (k : Nat) ∧ v = .string ⟨(lineM wMod m ++ linesM (L.take k)).toArray⟩ ∧ Below w3.heap.size w3 wr)
   (fun _ i _ => L.length - (intOf i).toNat)
  case atStart => exact ⟨0, Nat.zero_le _, rfl, by simp [linesM], Below.refl _ _⟩
  case round =>
   obtain ⟨k, hk, rfl, rfl, hb⟩ := hrel
   have hbz := hb.size
   have hlk := linesM_len (L.take k) (fun x hx => hsm.out x (List.mem_of_mem_take hx))
   by_cases hlt : k < L.length
   ·have hlt' : (k : Int) < (l.length : Int) := by omega
    obtain ⟨b, off, rfl, hbB, g0, g1, g2, g3⟩ := (hS3.below hb).mod hlt
    have hnext := Lib.hid (linesM_take L k hlt)
    have hxs := hsm.out L[k] (List.getElem_mem hlt)
    have hxl := lineM_len wReq L[k] (by decide) hxs
    generalize L[k] = x at g0 g1 g2 g3 hnext hxs hxl
    obtain ⟨s, x1, x2, x3⟩ := x
    simp only at g0 g1 g2 g3 hxs
    have cl := Lib.hid (refline_any wReq s x1 x2 x3 (wr.alloc (.cells #[.string ⟨s.toArray⟩, .int .i64 x1, .int .i64 x2, .int .i64 x3] 26)) (by decide) (by omega))
    have hlen : (linesM (L.take k)).length ≤ 6400 := by
     have : (L.take k).length ≤ 64 := by simp; omega
     omega
    clear hlk
    change Hid (Calls _ _ _ _ fun e w' => e = .returned (.string ⟨(lineM wReq (s, x1, x2, x3)).toArray⟩) ∧ _) at cl
    generalize lineM wReq (s, x1, x2, x3) = ln at cl hxl hnext
    generalize linesM (L.take k) = pre at hlen hnext ⊢
    generalize lineM wMod m = hd at hlm hmt' ⊢
    have nn : ¬ 9223372036854775807 < hd.length + pre.length + ln.length := by omega
    go_wp2_with (go_at_call 100; refine cl.out.mono ?_; rintro e w4 ⟨rfl, hb4⟩)
    go_roundw
    case rel => exact ⟨k + 1, by omega, by go_num, by rw [hnext.out, ByteArray.mk_append_mk]; simp, (hb.alloc hbz _).trans (hb4.mono (by simp; omega))⟩
    case measure => simp [intOf]; omega
   ·obtain rfl : k = l.length := by omega
    go_wp2
    refine bodyPost_ret (v := .tuple #[.string ⟨(lineM wMod m ++ linesM L).toArray⟩, .int .i64 0]) (by simp [results, Tryz.results56, go_sem, List.take_of_length_le (Nat.le_of_eq hll)]) rfl ?_
    exact ⟨by rw [hmt'.out], hB3.out.trans (hb.mono hsz3)⟩
 ·have hE' : (E != 0) = true := by simpa using hE
  have hmt' := Lib.hid (show mtext m l = [] by rw [hmt.out, if_neg hE])
  clear hE
  go_enter Tryz.func56, Tryz.ntmps56
  go_wp2_with (go_at_call 73; refine cc.out.mono ?_; rintro e w1 ⟨rfl, hb1⟩)
  refine bodyPost_ret (v := .tuple #[.string ⟨#[]⟩, .int .i64 E]) (by simp [results, Tryz.results56, go_sem]) rfl ?_
  exact ⟨by rw [hmt'.out], ((Below.refl _ _).alloc (Nat.le_refl _) _).trans (hb1.mono (by simp))⟩
end Go.Proofs.YthcgihgajdjfoaaGreatDoor
namespace Go.Proofs.YthcgihgajdjfoaaGreatDoor
open Go.RowKit Go.Sort
set_option maxRecDepth 100000 in
set_option maxHeartbeats 8000000 in
theorem refRelease_any (m : Mod) (A : Option Addr) (c : Nat) (l : List Mod) (A' : Option Addr) (c' : Nat) (s : List Src2) (w : World) (hA : Sl w w.heap.size 4 encM A l) (hS : Sl w w.heap.size 2 encT A' s) (hl : l.length ≤ 1099511627776) (hsl : s.length ≤ 1048576)
  (hm : ∀ x ∈ m :: l, x.1.length ≤ 1099511627776) (hs : ∀ x ∈ s, x.1.length ≤ 1048576 ∧ x.2.length ≤ maxLen) :
  Calls Tryz.prog 25 #[.agg #[.string ⟨m.1.toArray⟩, .int .i64 m.2.1, .int .i64 m.2.2.1, .int .i64 m.2.2.2, .slice A l.length c, .slice A' s.length c']] w fun e w' => e = .returned (.tuple #[.string ⟨(rtext (m, l, s)).toArray⟩, .int .i64 (rerr (m, l, s))]) ∧ Below w.heap.size w w' := by
 have hB0 : Below w.heap.size w (w.alloc (.cells #[.string ⟨m.1.toArray⟩, .int .i64 m.2.1, .int .i64 m.2.2.1, .int .i64 m.2.2.2, .slice A l.length c, .slice A' s.length c'] 62)) := (Below.refl _ _).alloc (Nat.le_refl _) _
 have Q0 := Lib.hid (Blk.new w 62 #[.string ⟨m.1.toArray⟩, .int .i64 m.2.1, .int .i64 m.2.2.1, .int .i64 m.2.2.2, .slice A l.length c, .slice A' s.length c'])
 have cT := Lib.hid (refmText_any m A c l (w.alloc (.cells #[.string ⟨m.1.toArray⟩, .int .i64 m.2.1, .int .i64 m.2.2.1, .int .i64 m.2.2.2, .slice A l.length c, .slice A' s.length c'] 62)) ((hA.below hB0).more (by simp)) hl hm)
 have hre := Lib.hid (show rerr (m, l, s) = if mcheck m l ≠ 0 then mcheck m l else if dupN s = true then 6 else 0 from rfl)
 have hrt := Lib.hid (show rtext (m, l, s) = if rerr (m, l, s) = 0 then dtext (fnv fstart (mtext m l ++ srcLines (tsort s))) else [] from rfl)
 have hmtl := mtext_len m l
 clear hA hm
 generalize rtext (m, l, s) = RT at hrt ⊢
 generalize rerr (m, l, s) = RE at hrt hre ⊢
 generalize mcheck m l = E at cT hre
 by_cases hE : E = 0
 ·have hre' := Lib.hid (show RE = if dupN s = true then 6 else 0 by rw [hre.out, hE]; rfl)
  subst hE
  clear hre
  generalize mtext m l = mt at cT hrt hmtl
  go_enter Tryz.func25, Tryz.ntmps25
  go_wp2_with fail
  refine cT.out.mono ?_
  rintro e w1 ⟨rfl, hb1⟩
  have q1 := (Q0.out.keep hb1).cell 5
  simp at q1
  have hB1 := Lib.hid (hB0.trans (hb1.mono (by simp)))
  have hS1 := (hS.below hB1.out).more hB1.out.size
  clear hS hB0 hb1 Q0 cT
  go_wp2_with fail
  go_loopw [6, 25] (fun v i wr => ∃ (k : Nat) (P : List Src2), k ≤ s.length ∧ i = .int .i64 (k : Nat) ∧ P.length = k ∧ Acc wr w1.heap.size 64 2 v k (P.flatMap encT) ∧ Hid (P.Perm (s.take k)) ∧ Hid (P.Pairwise (leOf (ltOf tcmp))) ∧ Hid (dupN P = false) ∧ Below w1.heap.size w1 wr)
   (fun _ i _ => s.length - (intOf i).toNat)
  case atStart => exact ⟨0, [], Nat.zero_le _, rfl, rfl, Acc.nil_ _ _ _ _, List.Perm.refl [], List.Pairwise.nil, rfl, Below.refl _ _⟩
  case round =>
   obtain ⟨wo, hwo⟩ : ∃ wo, wo = wr := ⟨_, rfl⟩
   subst hwo
   obtain ⟨k, P, hk, rfl, hPk, hacc, HP, HS, HD, hb⟩ := hrel
   have hbz := hb.size
   obtain ⟨A1, c1, rfl⟩ := hacc.shape
   have hcap := hacc.cap
   by_cases hlt : k < s.length
   ·have hlt' : (k : Int) < (s.length : Int) := by omega
    obtain ⟨b, off, rfl, hbB, g0, g1⟩ := (hS1.below hb).src2 hlt
    have HN := Lib.hid (fun a => ins_perm P (s.take k) s[k] a HP.out)
    have HK := Lib.hid (List.take_succ_eq_append_getElem hlt)
    have HI := Lib.hid (fun a (ha : a ≤ P.length) (h : InsT P s[k] a) => insT_sorted ha HS.out h)
    have HDI := Lib.hid (fun i (hi : i < P.length) (he : P[i].1 = s[k].1) => dup_ins hlt HP.out hi he)
    have HNI := Lib.hid (fun a (ha : a ≤ P.length) (h : InsT P s[k] a) (hne : ∀ i, i + 1 = a → ∀ h : i < P.length, P[i].1 ≠ s[k].1) => nodup_ins ha HS.out HD.out h hne)
    have HPk := Lib.hid hPk
    have hp1 : P.length ≤ k := by omega
    have hp2 : k ≤ P.length := by omega
    clear hPk
    generalize s[k] = x at g0 g1 HN HK HI HDI HNI
    obtain ⟨x1, x2⟩ := x
    simp only at g0 g1
    go_upto_block 2 with fail
    have hB2 := Lib.hid (hb.alloc hbz (.cells #[.string ⟨x1.toArray⟩, .string ⟨x2.toArray⟩] 64))
    have hacc1 := hacc.alloc (.cells #[.string ⟨x1.toArray⟩, .string ⟨x2.toArray⟩] 64)
    have q0 := Blk.new wo 64 #[.string ⟨x1.toArray⟩, .string ⟨x2.toArray⟩]
    have hzz : (wo.alloc (.cells #[.string ⟨x1.toArray⟩, .string ⟨x2.toArray⟩] 64)).heap.size = wo.heap.size + 1 := by simp
    clear g0 g1 hacc hb
    generalize wo.alloc (.cells #[.string ⟨x1.toArray⟩, .string ⟨x2.toArray⟩] 64) = W0 at hB2 hacc1 q0 hzz ⊢
    generalize wo.heap.size = g at q0 hbz hzz ⊢
    have Q2 := Lib.hid q0
    have HA0 := Lib.hid hacc1
    clear q0
    go_cut [9] (fun i wx => ∃ a : Nat, a ≤ P.length ∧ i = .int .i64 (a : Nat) ∧ Hid (InsT P (x1, x2) a) ∧ Below W0.heap.size W0 wx)
    case first =>
     go_wp2_with fail
     go_loopw [9] (fun i wx => ∃ a : Nat, a ≤ P.length ∧ i = .int .i64 (a : Nat) ∧ Hid (∀ i, a ≤ i → ∀ h : i < P.length, ltOf tcmp (x1, x2) P[i] = true) ∧ Below W0.heap.size W0 wx) (fun i _ => (intOf i).toNat)
     case atStart => exact ⟨k, hp2, rfl, fun i hi h => by omega, Below.refl _ _⟩
     case round =>
      obtain ⟨a, ha, rfl, HJ, hbx⟩ := hrel
      have hxz := hbx.size
      have q1' := (Q2.out.keep hbx).cell
      have p0 := q1' 0
      have p1 := q1' 1
      simp at p0 p1
      clear q1'
      by_cases h0 : 0 < a
      ·obtain ⟨n, hn⟩ : ∃ n, n + 1 = a := ⟨a - 1, by omega⟩
       have d0 : decide (0 < a) = true := decide_eq_true h0
       have d1 : decide ((0 : Int) < (a : Int)) = true := decide_eq_true (by omega)
       have hw : IntKind.i64.wrap ((a : Int) - 1) = (n : Int) := by simp [IntKind.wrap, IntKind.bits, IntKind.signed]; omega
       have hnP : n < P.length := by omega
       have hnk : (n : Int) < (k : Int) := by omega
       obtain ⟨b1, off1, e1, hbB1, f0, f1⟩ := (((HA0.out).sl encT_len (by decide)).2.below hbx).src2 hnP
       have HJ2 := Lib.hid (show ltOf tcmp (x1, x2) P[n] = true → ∀ i, n ≤ i → ∀ h : i < P.length, ltOf tcmp (x1, x2) P[i] = true from fun h i hi hP => by
        rcases Nat.lt_or_ge n i with h' | h'
        ·exact HJ.out i (by omega) hP
        ·obtain rfl : i = n := by omega
         exact h)
       have HJ3 := Lib.hid (show ltOf tcmp (x1, x2) P[n] = false → InsT P (x1, x2) a from fun h => ⟨fun i hi hP => by
        obtain rfl : i = n := by omega
        exact h, HJ.out⟩)
       have HX := slt_eq (x1, x2) P[n]
       simp only at HX
       rw [HX] at HJ2 HJ3
       clear HX HJ
       generalize P[n] = y at f0 f1 HJ2 HJ3
       obtain ⟨y1, y2⟩ := y
       simp only at f0 f1 HJ2 HJ3
       subst e1
       cases hq : Op.bytesLess x1 y1
       ·have HJ4 := Lib.hid (HJ3.out hq)
        clear HJ2 HJ3
        go_wp2
        go_quiet (fail)
        go_wp2
        go_meet
        case rel => exact ⟨a, ha, rfl, HJ4.out, hbx.drewN _⟩
       ·have HJ4 := Lib.hid (HJ2.out hq)
        clear HJ2 HJ3
        go_wp2
        go_quiet (fail)
        go_wp2
        go_roundw
        case rel => exact ⟨n, by omega, rfl, HJ4.out, hbx.drewN _⟩
        case measure => simp [intOf]; omega
      ·obtain rfl : a = 0 := by omega
       have HI0 := Lib.hid (show InsT P (x1, x2) 0 from ⟨fun i hi => by omega, HJ.out⟩)
       clear HJ
       go_wp2
       go_quiet (fail)
       go_wp2
       go_meet
       case rel => exact ⟨0, Nat.zero_le _, rfl, HI0.out, hbx.drewN _⟩
    case rest =>
     obtain ⟨a, ha, rfl, HIA, hbx⟩ := hcut
     have hxz := hbx.size
     have hak : a ≤ k := by omega
     obtain ⟨D, hD0, hD1⟩ : ∃ D : Bool, (a = 0 → D = false) ∧ (∀ n, n + 1 = a → ∀ h : n < P.length, D = (P[n].1 == x1)) := by
      rcases a with _ | n
      ·exact ⟨false, fun _ => rfl, fun n hn => by omega⟩
      ·exact ⟨P[n].1 == x1, fun h => by omega, fun n' hn' h => by
        obtain rfl : n' = n := by omega
        rfl⟩
     have HD0 := Lib.hid hD0
     have HD1 := Lib.hid hD1
     clear hD0 hD1
     go_upto_region 11 with fail
     go_cut [58] (fun t wx => t = .bool D ∧ Below W0.heap.size W0 wx)
     case first =>
      have q1' := (Q2.out.keep hbx).cell
      have p0 := q1' 0
      have p1 := q1' 1
      simp at p0 p1
      clear q1'
      by_cases h0 : 0 < a
      ·obtain ⟨n, hn⟩ : ∃ n, n + 1 = a := ⟨a - 1, by omega⟩
       have d0 : decide (0 < a) = true := decide_eq_true h0
       have d1 : decide ((0 : Int) < (a : Int)) = true := decide_eq_true (by omega)
       have hw : IntKind.i64.wrap ((a : Int) - 1) = (n : Int) := by simp [IntKind.wrap, IntKind.bits, IntKind.signed]; omega
       have hnP : n < P.length := by omega
       have hnk : (n : Int) < (k : Int) := by omega
       obtain ⟨b1, off1, e1, hbB1, f0, f1⟩ := (((HA0.out).sl encT_len (by decide)).2.below hbx).src2 hnP
       have hDn := HD1.out n hn hnP
       generalize P[n] = y at f0 f1 hDn
       obtain ⟨y1, y2⟩ := y
       simp only at f0 f1 hDn
       subst e1
       by_cases hq : y1 = x1
       ·subst hq
        have HDn := Lib.hid (show D = true by rw [hDn]; simp)
        clear hDn
        go_wp2
        go_quiet (fail)
        go_wp2
        go_meet
        case rel => exact ⟨by rw [HDn.out], hbx.drewN _⟩
       ·have hq' : (y1 == x1) = false := beq_eq_false_iff_ne.2 hq
        have HDn := Lib.hid (show D = false by rw [hDn]; exact hq')
        clear hDn hq
        go_wp2
        go_quiet (fail)
        go_wp2
        go_meet
        case rel => exact ⟨by rw [HDn.out], hbx.drewN _⟩
      ·have HDn := Lib.hid (HD0.out (by omega))
       obtain rfl : a = 0 := by omega
       go_wp2
       go_quiet (fail)
       go_wp2
       go_meet
       case rel => exact ⟨by rw [HDn.out], hbx.drewN _⟩
     case rest =>
      obtain ⟨rfl, hby⟩ := hcut
      have hyz := hby.size
      clear hbx hxz
      cases D
      ·have HNE := Lib.hid (HNI.out a ha HIA.out (fun i hi h he => by
        have := HD1.out i hi h
        rw [he] at this
        simp at this))
       clear HNI HDI HD0 HD1
       have hS0 := (HA0.out.sl encT_len (by decide)).2.below hby
       have hS' := hS0.more hyz
       have rc1 := fun W => run_cut_hi elSrc A1 k c1 a (by omega) W
       have rc2 := fun W => run_cut_lo elSrc A1 k c1 a hak W
       have hac0 := Acc.marked wc #[] wc.heap.size 64 2 0 (0, 0) rfl
       have hs1 : Src (wc.alloc (.cells #[] 64)) 2 A1 a ((P.take a).flatMap encT) := by
        have := ((hS'.take a).below ((Below.refl _ _).alloc (Nat.le_refl _) (.cells #[] 64))).src encT_len
        rwa [List.length_take, Nat.min_eq_left ha] at this
       have hS3 := hS'.drop c1 a (by omega)
       have hdl : (P.drop a).length = k - a := by simp; omega
       have q1' := (Q2.out.keep hby).cell
       have p0 := q1' 0
       have p1 := q1' 1
       simp at p0 p1
       clear q1'
       have hgz : g < wc.heap.size := by omega
       have HS3 := Lib.hid hS3
       have HBX := Lib.hid hby
       clear hS0 hS' hS3 hacc1 hby
       go_wp2_with (first
        | (at_builtin; refine wpList_app _ rfl (.tmp 59) (.tmp 62) 60 rfl wc.heap.size 64 2 32 elSrc _ 0 _ rfl hac0 A1 a c1 ((P.take a).flatMap encT) rfl hs1 (encT_one _) (by simp only [maxLen]; omega) (by omega) (by simp) ?_; intro v1 w2 hacc1 _ hb1 _ _; (have hb1' := ((Below.refl wc.heap.size wc).alloc (Nat.le_refl _) _).trans hb1); (have f0 := cell_keep hb1' p0); (have f1 := cell_keep hb1' p1); (have HY1 := Lib.hid hb1'); clear hb1 hb1')
        | (at_builtin; refine wpList_app _ rfl (.tmp 64) (.tmp 66) 60 rfl wc.heap.size 64 2 32 elSrc _ (0 + a) _ rfl (hacc1.alloc _) _ 1 _ _ rfl (Src.lit _ 2 _ _ 1 rfl) (by simp [Value.oneCell']) (by simp only [maxLen]; omega) (by omega) (by have := HY1.out.size; simp; omega) ?_; intro v2 w3 hacc2 _ hb2 _ _; (have HY2 := Lib.hid (HY1.out.trans (((Below.refl wc.heap.size w2).alloc HY1.out.size _).trans hb2))); clear hb2; (have hs3 := (HS3.out.below HY2.out).src encT_len); rw [hdl] at hs3)
        | (at_builtin; refine wpList_app _ rfl (.tmp 68) (.tmp 71) 60 rfl wc.heap.size 64 2 32 elSrc _ (0 + a + 1) _ rfl hacc2 _ (k - a) _ _ rfl hs3 (encT_one _) (by simp only [maxLen]; omega) (by omega) HY2.out.size ?_; intro v3 w4 hacc3 _ hb3 _ _; (have HY3 := Lib.hid (HY2.out.trans hb3)); clear hb3))
       go_roundw
       case rel =>
        have hwb : w1.heap.size ≤ wc.heap.size := by omega
        have hP' : (P.take a ++ (x1, x2) :: P.drop a).length = k + 1 := by simp; omega
        have e3 : 0 + a + 1 + (k - a) = k + 1 := by omega
        have hacc4 := hacc3.less hwb
        rw [e3] at hacc4
        refine ⟨k + 1, P.take a ++ (x1, x2) :: P.drop a, by omega, by go_num, hP', ?_, ?_, HI.out a ha HIA.out, HNE.out, hB2.out.trans ((HBX.out.mono (by omega)).trans (HY3.out.mono hwb))⟩
        ·rw [flatT_ins]
         exact hacc4
        ·have := HN.out a
         rw [HK.out]
         exact this
       case measure => simp [intOf]; omega
      ·have hdup : dupN s = true := by
        rcases Nat.eq_zero_or_pos a with h0 | h0
        ·exact absurd (HD0.out h0) (by simp)
        ·obtain ⟨n, hn⟩ : ∃ n, n + 1 = a := ⟨a - 1, by omega⟩
         have hnP : n < P.length := by omega
         have := HD1.out n hn hnP
         exact HDI.out n hnP (by simpa using this.symm)
       have hRE := Lib.hid (show RE = 6 by rw [hre'.out, hdup]; rfl)
       have hRT := Lib.hid (show RT = [] by rw [hrt.out, hRE.out]; rfl)
       have HBX := Lib.hid hby
       clear hby HD0 HD1 HDI HNI HN HK HI hdup
       go_wp2
       refine bodyPost_ret (v := .tuple #[.string ⟨#[]⟩, .int .i64 6]) (by simp [results, Tryz.results25, go_sem]) rfl ?_
       exact ⟨by rw [hRT.out, hRE.out], hB1.out.trans ((hB2.out.trans (HBX.out.mono (by omega))).mono hB1.out.size)⟩
   ·have hkl : k = s.length := by omega
    have hPs : P.Perm s := by
     have := HP.out
     rwa [List.take_of_length_le (by omega)] at this
    have hd : dupN s = false := by rw [← dupN_perm hPs]; exact HD.out
    have hPt := tsort_of hPs HS.out hd
    have hRE := Lib.hid (show RE = 0 by rw [hre'.out, hd]; rfl)
    have hRT := Lib.hid (show RT = dtext (fnv fstart (mt ++ srcLines P)) by rw [hrt.out, hRE.out, hPt]; rfl)
    have hS3 := (hacc.sl encT_len (by decide)).2
    have hsm := Lib.hid (fun x (hx : x ∈ P) => hs x (hPs.mem_iff.1 hx))
    have hB3 := Lib.hid (hB1.out.trans (hb.mono hB1.out.size))
    have hlen := Lib.hid (fun n => srcLines_len (P.take n) 1048576 (fun x hx => (hsm.out x (List.mem_of_mem_take hx)).1))
    have hp1 : P.length ≤ k := by omega
    have hp2 : k ≤ P.length := by omega
    clear hPs hd hPt HP HS HD hacc hb hre' hrt hs hPk hkl
    go_wp2
    go_loopw [4, 77] (fun v i wr => ∃ j, j ≤ P.length ∧ i = .int .i64 (j : Nat) ∧ v = .string ⟨(mt ++ srcLines (P.take j)).toArray⟩ ∧ Below wo.heap.size wo wr) (fun _ i _ => P.length - (intOf i).toNat)
    case atStart => exact ⟨0, Nat.zero_le _, rfl, by simp [srcLines], Below.refl _ _⟩
    case round =>
     obtain ⟨j, hj, rfl, rfl, hb⟩ := hrel
     have hbz := hb.size
     have hpl : (mt ++ srcLines (P.take j)).length ≤ 5000000000000 := by
      have h1 := hlen.out j
      have h2 : (P.take j).length ≤ 1048576 := by simp; omega
      have h3 : (P.take j).length * (4 * 1048576 + 22) ≤ 1048576 * (4 * 1048576 + 22) := Nat.mul_le_mul_right _ h2
      have h4 : (srcLines (P.take j)).length ≤ 1048576 * (4 * 1048576 + 22) := Nat.le_trans h1 h3
      simp
      omega
     by_cases hjt : j < P.length
     ·have hjt' : (j : Int) < (k : Int) := by omega
      obtain ⟨b, off, rfl, hbB, g0, g1⟩ := (hS3.below hb).src2 hjt
      have HN := Lib.hid (show mt ++ srcLines (P.take (j + 1)) = mt ++ srcLines (P.take j) ++ srcLine P[j] by rw [srcLines_take P j hjt]; simp)
      obtain ⟨hx1, hx2⟩ := hsm.out P[j] (List.getElem_mem hjt)
      generalize P[j] = x at g0 g1 HN hx1 hx2
      obtain ⟨nm, tx⟩ := x
      simp only at g0 g1 hx1 hx2
      have cq := Lib.hid (fun W => refQuote_any nm W (by omega))
      have cs := Lib.hid (fun W => refSum_any tx W hx2)
      have hft := fnv_lt fstart tx (by decide)
      have ct := Lib.hid (fun W => refText_any (fnv fstart tx) W hft)
      have hql := qtext_len nm
      have htl : (dtext (fnv fstart tx)).length ≤ 18 := Nat.le_of_eq (dtext_len _)
      have hln := Lib.hid (show srcLine (nm, tx) = qtext nm ++ [32] ++ dtext (fnv fstart tx) ++ [10] from rfl)
      generalize dtext (fnv fstart tx) = td at ct htl hln
      generalize fnv fstart tx = ft at cs ct hft
      generalize qtext nm = qn at cq hql hln
      rw [hln.out] at HN
      generalize mt ++ srcLines (P.take j) = pre at HN hpl ⊢
      have n1 : ¬ 9223372036854775807 < pre.length + qn.length := by omega
      have n2 : ¬ 9223372036854775807 < pre.length + qn.length + 1 := by omega
      have n3 : ¬ 9223372036854775807 < pre.length + qn.length + 1 + td.length := by omega
      have n4 : ¬ 9223372036854775807 < pre.length + qn.length + 1 + td.length + 1 := by omega
      go_wp2
      go_region_held3 (fun W => W.cell? ⟨wr.heap.size, 0, none⟩ = some (.string ⟨nm.toArray⟩) ∧ W.cell? ⟨wr.heap.size, 1, none⟩ = some (.string ⟨tx.toArray⟩)) (first | (simp; done) | (go_split_ands; (repeat' apply And.intro) <;> (first | assumption | (apply cell_keep; assumption; assumption) | (apply cell_keep_alloc; assumption))))
       (first | (go_at_call 57; refine (cq.out _).mono ?_; rintro e w4 ⟨rfl, hb4⟩) | (go_at_call 59; refine (cs.out _).mono ?_; rintro e w5 ⟨rfl, rfl⟩) | (go_at_call 58; refine (ct.out _).mono ?_; rintro e w6 ⟨rfl, rfl⟩))
      all_goals have hB7 := Lib.hid ((hb.alloc hbz (.cells #[.string ⟨nm.toArray⟩, .string ⟨tx.toArray⟩] 64)).drew.trans (hb4.mono (by simp; omega)))
      all_goals go_wp2
      all_goals go_roundw
      case rel =>
       refine ⟨j + 1, by omega, by go_num, ?_, hB7.out⟩
       rw [HN.out, show ({ data := #[32] } : ByteArray) = ⟨([32] : List UInt8).toArray⟩ from rfl, show ({ data := #[10] } : ByteArray) = ⟨([10] : List UInt8).toArray⟩ from rfl]
       simp only [ByteArray.mk_append_mk]
       simp
      case measure => simp [intOf]; omega
     ·have hjt' : ¬ (j : Int) < (k : Int) := by omega
      have hmp : mt ++ srcLines (P.take j) = mt ++ srcLines P := by rw [List.take_of_length_le (by omega)]
      rw [hmp] at hpl ⊢
      generalize mt ++ srcLines P = all at hpl hRT
      have cs := Lib.hid (fun W => refSum_any all W (by unfold maxLen; omega))
      have hft := fnv_lt fstart all (by decide)
      generalize fnv fstart all = q at cs hft hRT
      have ct := Lib.hid (fun W => refText_any q W hft)
      generalize dtext q = td at ct hRT
      go_wp2_with (first | (go_at_call 59; refine (cs.out _).mono ?_; rintro e w5 ⟨rfl, rfl⟩) | (go_at_call 58; refine (ct.out _).mono ?_; rintro e w6 ⟨rfl, rfl⟩))
      refine bodyPost_ret (v := .tuple #[.string ⟨td.toArray⟩, .int .i64 0]) (by simp [results, Tryz.results25, go_sem]) rfl ?_
      exact ⟨by rw [hRT.out, hRE.out], hB3.out.trans (hb.mono hB3.out.size)⟩
 ·have hE' : (E != 0) = true := by simpa using hE
  have hRE := Lib.hid (show RE = E by rw [hre.out, if_pos hE])
  have hRT := Lib.hid (show RT = [] by rw [hrt.out, if_neg (by rw [hRE.out]; exact hE)])
  clear hrt hre hE
  go_enter Tryz.func25, Tryz.ntmps25
  go_wp2_with (go_at_call 56; refine cT.out.mono ?_; rintro e w1 ⟨rfl, hb1⟩)
  refine bodyPost_ret (v := .tuple #[.string ⟨#[]⟩, .int .i64 E]) (by simp [results, Tryz.results25, go_sem]) rfl ?_
  exact ⟨by rw [hRT.out, hRE.out], hB0.trans (hb1.mono (by simp))⟩
end Go.Proofs.YthcgihgajdjfoaaGreatDoor
