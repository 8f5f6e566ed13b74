/- Plain laws and walks: the references of Text, Release and List. -/
import Derived.Test.YtabmidnamaaklaaGreatDoorPI
import Derived.Test.YtabmidnamaaklaaGreatDoorWN
import Derived.Test.YtabmidnamaaklaaGreatDoorWP
import Derived.Test.YtabmidnamaaklaaGreatDoorWV
import Derived.Test.YtabmidnamaaklaaGreatDoorPM
import Derived.Test.YtabmidnamaaklaaGreatDoorWX
namespace Go.Proofs.YtabmidnamaaklaaGreatDoor
open Go.RowKit Go.Sort

/-- where a source is inserted -/
def InsT (P : List Src2) (x : Src2) (a : Nat) : Prop := (∀ i, i + 1 = a → ∀ h : i < P.length, ltOf tcmp x P[i] = false) ∧ (∀ i, a ≤ i → ∀ h : i < P.length, ltOf tcmp x P[i] = true)
theorem flatT_ins (P : List Src2) (x : Src2) (a : Nat) : (P.take a ++ x :: P.drop a).flatMap encT = ((P.take a).flatMap encT ++ encT x) ++ (P.drop a).flatMap encT := by simp
theorem dup_ins {P s : List Src2} {k : Nat} (h : k < s.length) (hp : P.Perm (s.take k)) {i : Nat} (hi : i < P.length) (he : P[i].1 = s[k].1) : dupN s = true := by
  unfold dupN
  simp only [Bool.not_eq_true', decide_eq_false_iff_not]
  intro hn
  have hm : P[i] ∈ s.take k := hp.mem_iff.1 (List.getElem_mem hi)
  obtain ⟨j, hj, hje⟩ := List.mem_take_iff_getElem.1 hm
  have := nodup_inj hn (i := j) (j := k) (by simp; omega) (by simpa using h) (by simp; rw [hje, he])
  omega
theorem nodup_ins {P : List Src2} {x : Src2} {a : Nat} (ha : a ≤ P.length) (hs : P.Pairwise (leOf (ltOf tcmp))) (hn : dupN P = false) (hI : InsT P x a) (hne : ∀ i, i + 1 = a → ∀ h : i < P.length, P[i].1 ≠ x.1) : dupN (P.take a ++ x :: P.drop a) = false := by
  have hp : (P.take a ++ x :: P.drop a).Perm (x :: P) := by
    have : (P.take a ++ x :: P.drop a).Perm (x :: (P.take a ++ P.drop a)) := List.perm_middle
    rwa [List.take_append_drop] at this
  rw [dupN_perm hp]
  unfold dupN at hn ⊢
  simp only [Bool.not_eq_false', decide_eq_true_eq] at hn ⊢
  rw [List.map_cons, List.nodup_cons]
  refine ⟨fun hm => ?_, hn⟩
  obtain ⟨y, hy, hyx⟩ := List.mem_map.1 hm
  obtain ⟨i, hi, rfl⟩ := List.getElem_of_mem hy
  rcases Nat.lt_or_ge i a with hia | hia
  · have hlast : a - 1 < P.length := by omega
    have h1 := hI.1 (a - 1) (by omega) hlast
    have h2 := hne (a - 1) (by omega) hlast
    have h3 : Op.bytesLess P[a - 1].1 x.1 = true := by
      rw [slt_eq] at h1
      cases hb : Op.bytesLess P[a - 1].1 x.1
      · exact absurd (bl_total _ _ hb h1) h2
      · rfl
    rcases (show i = a - 1 ∨ i < a - 1 by omega) with rfl | hlt
    · exact h2 hyx
    · have h4 : leOf (ltOf tcmp) P[i] P[a - 1] := List.pairwise_iff_getElem.1 hs i (a - 1) hi hlast hlt
      unfold leOf at h4
      rw [slt_eq, hyx, h3] at h4
      cases h4
  · have h1 := hI.2 i hia hi
    rw [slt_eq, hyx, bl_irrefl] at h1
    cases h1
theorem insT_sorted {P : List Src2} {x : Src2} {a : Nat} (ha : a ≤ P.length) (hs : P.Pairwise (leOf (ltOf tcmp))) (hI : InsT P x a) : (P.take a ++ x :: P.drop a).Pairwise (leOf (ltOf tcmp)) := ins_sorted tlt_swo P x a ha hs hI.1 hI.2
theorem srcLines_len (l : List Src2) (n : Nat) (h : ∀ x ∈ l, x.1.length ≤ n) : (l.flatMap srcLine).length ≤ l.length * (4 * n + 22) := by
  induction l with
  | nil => simp
  | cons a l ih =>
    have h1 := ih (fun x hx => h x (by simp [hx]))
    have h2 := qtext_len a.1
    have h3 := h a (by simp)
    have h4 : (srcLine a).length ≤ 4 * n + 22 := by
      unfold srcLine
      simp [dtext, hexs_length]
      omega
    simp only [List.flatMap_cons, List.length_append, List.length_cons, Nat.add_mul, Nat.one_mul]
    omega
end Go.Proofs.YtabmidnamaaklaaGreatDoor

namespace Go.Proofs.YtabmidnamaaklaaGreatDoor
open Go.RowKit Go.Sort

set_option maxRecDepth 100000 in
set_option maxHeartbeats 4000000 in
theorem refmText_any (m : Mod) (A : Option Addr) (c : Nat) (l : List Mod) (w : World) (hA : Sl w w.heap.size 4 encM A l) (hl : l.length ≤ 1099511627776) (hs : ∀ x ∈ m :: l, x.1.length ≤ 1099511627776) :
    Calls Tryz.prog 32 #[.agg #[.string ⟨m.1.toArray⟩, .int .i64 m.2.1, .int .i64 m.2.2.1, .int .i64 m.2.2.2, .slice A l.length c]] w fun e w' => e = .returned (.tuple #[.string ⟨(mtext m l).toArray⟩, .int .i64 (mcheck m l)]) ∧ Below w.heap.size w w' := by
  have cc := Lib.hid (refCheck_any m A c l (w.alloc (.cells #[.string ⟨m.1.toArray⟩, .int .i64 m.2.1, .int .i64 m.2.2.1, .int .i64 m.2.2.2, .slice A l.length c] 37)) ((hA.below ((Below.refl _ _).alloc (Nat.le_refl _) _)).more (by simp)) hl hs)
  have HA := Lib.hid hA
  have hok := Lib.hid (mcheck_ok m l)
  have hmt := Lib.hid (mtext.eq_1 m l)
  have cl1 := Lib.hid (fun (W : World) (h : m.1.length ≤ 60) => refline_any wMod m.1 m.2.1 m.2.2.1 m.2.2.2 W (by decide) (by omega))
  clear hA
  generalize mcheck m l = E at cc hok hmt ⊢
  by_cases hE : E = 0
  · subst hE
    obtain ⟨hl64, hp⟩ := hok.out rfl
    have hmt' := Lib.hid (show mtext m l = lineM wMod m ++ linesM (msort l) by rw [hmt.out]; rfl)
    clear hmt hok
    have cs := Lib.hid (fun (W : World) (hW : Below w.heap.size w W) => refSorted_any A c l W ((HA.out.below hW).more hW.size) hl)
    go_enter Tryz.func32, Tryz.ntmps32
    go_wp2_with (first
      | (go_at_call 50; refine cc.out.mono ?_; rintro e w1 ⟨rfl, hb1⟩;
         have q0 := (Blk.new w 37 #[.string ⟨m.1.toArray⟩, .int .i64 m.2.1, .int .i64 m.2.2.1, .int .i64 m.2.2.2, .slice A l.length c]).keep hb1;
         have hB1 := Lib.hid (((Below.refl w.heap.size w).alloc (Nat.le_refl _) _).trans (hb1.mono (by simp))); clear hb1;
         have k0 := q0.cell 0; have k1 := q0.cell 1; have k2 := q0.cell 2; have k3 := q0.cell 3; simp at k0 k1 k2 k3; have hq0 := Lib.hid q0; clear q0)
      | (go_at_call 51; refine (cl1.out _ (hp m (by simp))).mono ?_; rintro e w2 ⟨rfl, hb2⟩;
         have q2 := hq0.out.keep hb2; have hB2 := Lib.hid (hB1.out.trans (hb2.mono hB1.out.size)); clear hb2;
         have j0 := q2.cell 0; have j1 := q2.cell 1; have j2 := q2.cell 2; have j3 := q2.cell 3; have j4 := q2.cell 4; simp at j0 j1 j2 j3 j4; clear q2)
      | (go_at_call 37; refine (cs.out _ hB2.out).mono ?_; rintro e w3 ⟨A3, c3, rfl, hS3, hb3⟩; have hB3 := Lib.hid (hB2.out.trans (hb3.mono hB2.out.size)); clear hb3))
    have hll := msort_len l
    have hsm := Lib.hid (fun x (hx : x ∈ msort l) => hp x (by simp; exact .inr ((List.mergeSort_perm l _).mem_iff.1 hx)))
    have hsz3 := hB3.out.size
    generalize msort l = L at hS3 hll hsm hmt' ⊢
    have hlm := lineM_len wMod m (by decide) (hp m (by simp))
    clear cc cs cl1
    have e0 : ({ data := (lineT wMod m.1 m.2.1 m.2.2.1 m.2.2.2).toArray } : ByteArray) = { data := (lineM wMod m).toArray } := rfl
    rw [e0]
    clear e0
    go_wp2
    go_loopw [5, 20] (fun v i wr => ∃ k, k ≤ L.length ∧ i = .int .i64 (k : Nat) ∧ v = .string ⟨(lineM wMod m ++ linesM (L.take k)).toArray⟩ ∧ Below w3.heap.size w3 wr)
      (fun _ i _ => L.length - (intOf i).toNat)
    case atStart => exact ⟨0, Nat.zero_le _, rfl, by simp [linesM], Below.refl _ _⟩
    case round =>
      obtain ⟨k, hk, rfl, rfl, hb⟩ := hrel
      have hbz := hb.size
      have hlk := linesM_len (L.take k) (fun x hx => hsm.out x (List.mem_of_mem_take hx))
      by_cases hlt : k < L.length
      · have hlt' : (k : Int) < (l.length : Int) := by omega
        obtain ⟨b, off, rfl, hbB, g0, g1, g2, g3⟩ := (hS3.below hb).mod hlt
        have hnext := Lib.hid (linesM_take L k hlt)
        have hxs := hsm.out L[k] (List.getElem_mem hlt)
        have hxl := lineM_len wReq L[k] (by decide) hxs
        generalize L[k] = x at g0 g1 g2 g3 hnext hxs hxl
        obtain ⟨s, x1, x2, x3⟩ := x
        simp only at g0 g1 g2 g3 hxs
        have cl := Lib.hid (refline_any wReq s x1 x2 x3 (wr.alloc (.cells #[.string ⟨s.toArray⟩, .int .i64 x1, .int .i64 x2, .int .i64 x3] 34)) (by decide) (by omega))
        have hlen : (linesM (L.take k)).length ≤ 6400 := by
          have : (L.take k).length ≤ 64 := by simp; omega
          omega
        clear hlk
        change Hid (Calls _ _ _ _ fun e w' => e = .returned (.string ⟨(lineM wReq (s, x1, x2, x3)).toArray⟩) ∧ _) at cl
        generalize lineM wReq (s, x1, x2, x3) = ln at cl hxl hnext
        generalize linesM (L.take k) = pre at hlen hnext ⊢
        generalize lineM wMod m = hd at hlm hmt' ⊢
        have nn : ¬ 9223372036854775807 < hd.length + pre.length + ln.length := by omega
        go_wp2_with (go_at_call 51; refine cl.out.mono ?_; rintro e w4 ⟨rfl, hb4⟩)
        go_roundw
        case rel => exact ⟨k + 1, by omega, by go_num, by rw [hnext.out, ByteArray.mk_append_mk]; simp, (hb.alloc hbz _).trans (hb4.mono (by simp; omega))⟩
        case measure => simp [intOf]; omega
      · obtain rfl : k = l.length := by omega
        go_wp2
        refine bodyPost_ret (v := .tuple #[.string ⟨(lineM wMod m ++ linesM L).toArray⟩, .int .i64 0]) (by simp [results, Tryz.results32, go_sem, List.take_of_length_le (Nat.le_of_eq hll)]) rfl ?_
        exact ⟨by rw [hmt'.out], hB3.out.trans (hb.mono hsz3)⟩
  · have hE' : (E != 0) = true := by simpa using hE
    have hmt' := Lib.hid (show mtext m l = [] by rw [hmt.out, if_neg hE])
    clear hE
    go_enter Tryz.func32, Tryz.ntmps32
    go_wp2_with (go_at_call 50; refine cc.out.mono ?_; rintro e w1 ⟨rfl, hb1⟩)
    refine bodyPost_ret (v := .tuple #[.string ⟨#[]⟩, .int .i64 E]) (by simp [results, Tryz.results32, go_sem]) rfl ?_
    exact ⟨by rw [hmt'.out], ((Below.refl _ _).alloc (Nat.le_refl _) _).trans (hb1.mono (by simp))⟩
end Go.Proofs.YtabmidnamaaklaaGreatDoor

namespace Go.Proofs.YtabmidnamaaklaaGreatDoor
open Go.RowKit Go.Sort

set_option maxRecDepth 100000 in
set_option maxHeartbeats 8000000 in
theorem refRelease_any (m : Mod) (A : Option Addr) (c : Nat) (l : List Mod) (A' : Option Addr) (c' : Nat) (s : List Src2) (w : World) (hA : Sl w w.heap.size 4 encM A l) (hS : Sl w w.heap.size 2 encT A' s) (hl : l.length ≤ 1099511627776) (hsl : s.length ≤ 1048576)
    (hm : ∀ x ∈ m :: l, x.1.length ≤ 1099511627776) (hs : ∀ x ∈ s, x.1.length ≤ 1048576 ∧ x.2.length ≤ maxLen) :
    Calls Tryz.prog 20 #[.agg #[.string ⟨m.1.toArray⟩, .int .i64 m.2.1, .int .i64 m.2.2.1, .int .i64 m.2.2.2, .slice A l.length c, .slice A' s.length c']] w fun e w' => e = .returned (.tuple #[.string ⟨(rtext (m, l, s)).toArray⟩, .int .i64 (rerr (m, l, s))]) ∧ Below w.heap.size w w' := by
  have hB0 : Below w.heap.size w (w.alloc (.cells #[.string ⟨m.1.toArray⟩, .int .i64 m.2.1, .int .i64 m.2.2.1, .int .i64 m.2.2.2, .slice A l.length c, .slice A' s.length c'] 40)) := (Below.refl _ _).alloc (Nat.le_refl _) _
  have Q0 := Lib.hid (Blk.new w 40 #[.string ⟨m.1.toArray⟩, .int .i64 m.2.1, .int .i64 m.2.2.1, .int .i64 m.2.2.2, .slice A l.length c, .slice A' s.length c'])
  have cT := Lib.hid (refmText_any m A c l (w.alloc (.cells #[.string ⟨m.1.toArray⟩, .int .i64 m.2.1, .int .i64 m.2.2.1, .int .i64 m.2.2.2, .slice A l.length c, .slice A' s.length c'] 40)) ((hA.below hB0).more (by simp)) hl hm)
  have hre := Lib.hid (show rerr (m, l, s) = if mcheck m l ≠ 0 then mcheck m l else if dupN s = true then 6 else 0 from rfl)
  have hrt := Lib.hid (show rtext (m, l, s) = if rerr (m, l, s) = 0 then dtext (fnv fstart (mtext m l ++ srcLines (tsort s))) else [] from rfl)
  have hmtl := mtext_len m l
  clear hA hm
  generalize rtext (m, l, s) = RT at hrt ⊢
  generalize rerr (m, l, s) = RE at hrt hre ⊢
  generalize mcheck m l = E at cT hre
  by_cases hE : E = 0
  · have hre' := Lib.hid (show RE = if dupN s = true then 6 else 0 by rw [hre.out, hE]; rfl)
    subst hE
    clear hre
    generalize mtext m l = mt at cT hrt hmtl
    go_enter Tryz.func20, Tryz.ntmps20
    go_wp2_with fail
    refine cT.out.mono ?_
    rintro e w1 ⟨rfl, hb1⟩
    have q1 := (Q0.out.keep hb1).cell 5
    simp at q1
    have hB1 := Lib.hid (hB0.trans (hb1.mono (by simp)))
    have hS1 := (hS.below hB1.out).more hB1.out.size
    clear hS hB0 hb1 Q0 cT
    go_wp2_with fail
    go_loopw [6, 25] (fun v i wr => ∃ (k : Nat) (P : List Src2), k ≤ s.length ∧ i = .int .i64 (k : Nat) ∧ P.length = k ∧ Acc wr w1.heap.size 56 2 v k (P.flatMap encT) ∧ Hid (P.Perm (s.take k)) ∧ Hid (P.Pairwise (leOf (ltOf tcmp))) ∧ Hid (dupN P = false) ∧ Below w1.heap.size w1 wr)
      (fun _ i _ => s.length - (intOf i).toNat)
    case atStart => exact ⟨0, [], Nat.zero_le _, rfl, rfl, Acc.nil_ _ _ _ _, List.Perm.refl [], List.Pairwise.nil, rfl, Below.refl _ _⟩
    case round =>
      obtain ⟨wo, hwo⟩ : ∃ wo, wo = wr := ⟨_, rfl⟩
      subst hwo
      obtain ⟨k, P, hk, rfl, hPk, hacc, HP, HS, HD, hb⟩ := hrel
      have hbz := hb.size
      obtain ⟨A1, c1, rfl⟩ := hacc.shape
      have hcap := hacc.cap
      by_cases hlt : k < s.length
      · have hlt' : (k : Int) < (s.length : Int) := by omega
        obtain ⟨b, off, rfl, hbB, g0, g1⟩ := (hS1.below hb).src2 hlt
        have HN := Lib.hid (fun a => ins_perm P (s.take k) s[k] a HP.out)
        have HK := Lib.hid (List.take_succ_eq_append_getElem hlt)
        have HI := Lib.hid (fun a (ha : a ≤ P.length) (h : InsT P s[k] a) => insT_sorted ha HS.out h)
        have HDI := Lib.hid (fun i (hi : i < P.length) (he : P[i].1 = s[k].1) => dup_ins hlt HP.out hi he)
        have HNI := Lib.hid (fun a (ha : a ≤ P.length) (h : InsT P s[k] a) (hne : ∀ i, i + 1 = a → ∀ h : i < P.length, P[i].1 ≠ s[k].1) => nodup_ins ha HS.out HD.out h hne)
        have HPk := Lib.hid hPk
        have hp1 : P.length ≤ k := by omega
        have hp2 : k ≤ P.length := by omega
        clear hPk
        generalize s[k] = x at g0 g1 HN HK HI HDI HNI
        obtain ⟨x1, x2⟩ := x
        simp only at g0 g1
        go_upto_block 2 with fail
        have hB2 := Lib.hid (hb.alloc hbz (.cells #[.string ⟨x1.toArray⟩, .string ⟨x2.toArray⟩] 56))
        have hacc1 := hacc.alloc (.cells #[.string ⟨x1.toArray⟩, .string ⟨x2.toArray⟩] 56)
        have q0 := Blk.new wo 56 #[.string ⟨x1.toArray⟩, .string ⟨x2.toArray⟩]
        have hzz : (wo.alloc (.cells #[.string ⟨x1.toArray⟩, .string ⟨x2.toArray⟩] 56)).heap.size = wo.heap.size + 1 := by simp
        clear g0 g1 hacc hb
        generalize wo.alloc (.cells #[.string ⟨x1.toArray⟩, .string ⟨x2.toArray⟩] 56) = W0 at hB2 hacc1 q0 hzz ⊢
        generalize wo.heap.size = g at q0 hbz hzz ⊢
        have Q2 := Lib.hid q0
        have HA0 := Lib.hid hacc1
        clear q0
        go_cut [9] (fun i wx => ∃ a : Nat, a ≤ P.length ∧ i = .int .i64 (a : Nat) ∧ Hid (InsT P (x1, x2) a) ∧ Below W0.heap.size W0 wx)
        case first =>
          go_wp2_with fail
          go_loopw [9] (fun i wx => ∃ a : Nat, a ≤ P.length ∧ i = .int .i64 (a : Nat) ∧ Hid (∀ i, a ≤ i → ∀ h : i < P.length, ltOf tcmp (x1, x2) P[i] = true) ∧ Below W0.heap.size W0 wx) (fun i _ => (intOf i).toNat)
          case atStart => exact ⟨k, hp2, rfl, fun i hi h => by omega, Below.refl _ _⟩
          case round =>
            obtain ⟨a, ha, rfl, HJ, hbx⟩ := hrel
            have hxz := hbx.size
            have q1' := (Q2.out.keep hbx).cell
            have p0 := q1' 0
            have p1 := q1' 1
            simp at p0 p1
            clear q1'
            by_cases h0 : 0 < a
            · obtain ⟨n, hn⟩ : ∃ n, n + 1 = a := ⟨a - 1, by omega⟩
              have d0 : decide (0 < a) = true := decide_eq_true h0
              have d1 : decide ((0 : Int) < (a : Int)) = true := decide_eq_true (by omega)
              have hw : IntKind.i64.wrap ((a : Int) - 1) = (n : Int) := by simp [IntKind.wrap, IntKind.bits, IntKind.signed]; omega
              have hnP : n < P.length := by omega
              have hnk : (n : Int) < (k : Int) := by omega
              obtain ⟨b1, off1, e1, hbB1, f0, f1⟩ := (((HA0.out).sl encT_len (by decide)).2.below hbx).src2 hnP
              have HJ2 := Lib.hid (show ltOf tcmp (x1, x2) P[n] = true → ∀ i, n ≤ i → ∀ h : i < P.length, ltOf tcmp (x1, x2) P[i] = true from fun h i hi hP => by
                rcases Nat.lt_or_ge n i with h' | h'
                · exact HJ.out i (by omega) hP
                · obtain rfl : i = n := by omega
                  exact h)
              have HJ3 := Lib.hid (show ltOf tcmp (x1, x2) P[n] = false → InsT P (x1, x2) a from fun h => ⟨fun i hi hP => by
                obtain rfl : i = n := by omega
                exact h, HJ.out⟩)
              have HX := slt_eq (x1, x2) P[n]
              simp only at HX
              rw [HX] at HJ2 HJ3
              clear HX HJ
              generalize P[n] = y at f0 f1 HJ2 HJ3
              obtain ⟨y1, y2⟩ := y
              simp only at f0 f1 HJ2 HJ3
              subst e1
              cases hq : Op.bytesLess x1 y1
              · have HJ4 := Lib.hid (HJ3.out hq)
                clear HJ2 HJ3
                go_wp2
                go_quiet (fail)
                go_wp2
                go_meet
                case rel => exact ⟨a, ha, rfl, HJ4.out, hbx.drewN _⟩
              · have HJ4 := Lib.hid (HJ2.out hq)
                clear HJ2 HJ3
                go_wp2
                go_quiet (fail)
                go_wp2
                go_roundw
                case rel => exact ⟨n, by omega, rfl, HJ4.out, hbx.drewN _⟩
                case measure => simp [intOf]; omega
            · obtain rfl : a = 0 := by omega
              have HI0 := Lib.hid (show InsT P (x1, x2) 0 from ⟨fun i hi => by omega, HJ.out⟩)
              clear HJ
              go_wp2
              go_quiet (fail)
              go_wp2
              go_meet
              case rel => exact ⟨0, Nat.zero_le _, rfl, HI0.out, hbx.drewN _⟩
        case rest =>
          obtain ⟨a, ha, rfl, HIA, hbx⟩ := hcut
          have hxz := hbx.size
          have hak : a ≤ k := by omega
          obtain ⟨D, hD0, hD1⟩ : ∃ D : Bool, (a = 0 → D = false) ∧ (∀ n, n + 1 = a → ∀ h : n < P.length, D = (P[n].1 == x1)) := by
            rcases a with _ | n
            · exact ⟨false, fun _ => rfl, fun n hn => by omega⟩
            · exact ⟨P[n].1 == x1, fun h => by omega, fun n' hn' h => by
                obtain rfl : n' = n := by omega
                rfl⟩
          have HD0 := Lib.hid hD0
          have HD1 := Lib.hid hD1
          clear hD0 hD1
          go_upto_region 11 with fail
          go_cut [58] (fun t wx => t = .bool D ∧ Below W0.heap.size W0 wx)
          case first =>
            have q1' := (Q2.out.keep hbx).cell
            have p0 := q1' 0
            have p1 := q1' 1
            simp at p0 p1
            clear q1'
            by_cases h0 : 0 < a
            · obtain ⟨n, hn⟩ : ∃ n, n + 1 = a := ⟨a - 1, by omega⟩
              have d0 : decide (0 < a) = true := decide_eq_true h0
              have d1 : decide ((0 : Int) < (a : Int)) = true := decide_eq_true (by omega)
              have hw : IntKind.i64.wrap ((a : Int) - 1) = (n : Int) := by simp [IntKind.wrap, IntKind.bits, IntKind.signed]; omega
              have hnP : n < P.length := by omega
              have hnk : (n : Int) < (k : Int) := by omega
              obtain ⟨b1, off1, e1, hbB1, f0, f1⟩ := (((HA0.out).sl encT_len (by decide)).2.below hbx).src2 hnP
              have hDn := HD1.out n hn hnP
              generalize P[n] = y at f0 f1 hDn
              obtain ⟨y1, y2⟩ := y
              simp only at f0 f1 hDn
              subst e1
              by_cases hq : y1 = x1
              · subst hq
                have HDn := Lib.hid (show D = true by rw [hDn]; simp)
                clear hDn
                go_wp2
                go_quiet (fail)
                go_wp2
                go_meet
                case rel => exact ⟨by rw [HDn.out], hbx.drewN _⟩
              · have hq' : (y1 == x1) = false := beq_eq_false_iff_ne.2 hq
                have HDn := Lib.hid (show D = false by rw [hDn]; exact hq')
                clear hDn hq
                go_wp2
                go_quiet (fail)
                go_wp2
                go_meet
                case rel => exact ⟨by rw [HDn.out], hbx.drewN _⟩
            · have HDn := Lib.hid (HD0.out (by omega))
              obtain rfl : a = 0 := by omega
              go_wp2
              go_quiet (fail)
              go_wp2
              go_meet
              case rel => exact ⟨by rw [HDn.out], hbx.drewN _⟩
          case rest =>
            obtain ⟨rfl, hby⟩ := hcut
            have hyz := hby.size
            clear hbx hxz
            cases D
            · have HNE := Lib.hid (HNI.out a ha HIA.out (fun i hi h he => by
                have := HD1.out i hi h
                rw [he] at this
                simp at this))
              clear HNI HDI HD0 HD1
              have hS0 := (HA0.out.sl encT_len (by decide)).2.below hby
              have hS' := hS0.more hyz
              have rc1 := fun W => run_cut_hi elSrc A1 k c1 a (by omega) W
              have rc2 := fun W => run_cut_lo elSrc A1 k c1 a hak W
              have hac0 := Acc.marked wc #[] wc.heap.size 56 2 0 (0, 0) rfl
              have hs1 : Src (wc.alloc (.cells #[] 56)) 2 A1 a ((P.take a).flatMap encT) := by
                have := ((hS'.take a).below ((Below.refl _ _).alloc (Nat.le_refl _) (.cells #[] 56))).src encT_len
                rwa [List.length_take, Nat.min_eq_left ha] at this
              have hS3 := hS'.drop c1 a (by omega)
              have hdl : (P.drop a).length = k - a := by simp; omega
              have q1' := (Q2.out.keep hby).cell
              have p0 := q1' 0
              have p1 := q1' 1
              simp at p0 p1
              clear q1'
              have hgz : g < wc.heap.size := by omega
              have HS3 := Lib.hid hS3
              have HBX := Lib.hid hby
              clear hS0 hS' hS3 hacc1 hby
              go_wp2_with (first
                | (at_builtin; refine wpList_app _ rfl (.tmp 59) (.tmp 62) 38 rfl wc.heap.size 56 2 32 elSrc _ 0 _ rfl hac0 A1 a c1 ((P.take a).flatMap encT) rfl hs1 (encT_one _) (by simp only [maxLen]; omega) (by omega) (by simp) ?_; intro v1 w2 hacc1 _ hb1 _ _; (have hb1' := ((Below.refl wc.heap.size wc).alloc (Nat.le_refl _) _).trans hb1); (have f0 := cell_keep hb1' p0); (have f1 := cell_keep hb1' p1); (have HY1 := Lib.hid hb1'); clear hb1 hb1')
                | (at_builtin; refine wpList_app _ rfl (.tmp 64) (.tmp 66) 38 rfl wc.heap.size 56 2 32 elSrc _ (0 + a) _ rfl (hacc1.alloc _) _ 1 _ _ rfl (Src.lit _ 2 _ _ 1 rfl) (by simp [Value.oneCell']) (by simp only [maxLen]; omega) (by omega) (by have := HY1.out.size; simp; omega) ?_; intro v2 w3 hacc2 _ hb2 _ _; (have HY2 := Lib.hid (HY1.out.trans (((Below.refl wc.heap.size w2).alloc HY1.out.size _).trans hb2))); clear hb2; (have hs3 := (HS3.out.below HY2.out).src encT_len); rw [hdl] at hs3)
                | (at_builtin; refine wpList_app _ rfl (.tmp 68) (.tmp 71) 38 rfl wc.heap.size 56 2 32 elSrc _ (0 + a + 1) _ rfl hacc2 _ (k - a) _ _ rfl hs3 (encT_one _) (by simp only [maxLen]; omega) (by omega) HY2.out.size ?_; intro v3 w4 hacc3 _ hb3 _ _; (have HY3 := Lib.hid (HY2.out.trans hb3)); clear hb3))
              go_roundw
              case rel =>
                have hwb : w1.heap.size ≤ wc.heap.size := by omega
                have hP' : (P.take a ++ (x1, x2) :: P.drop a).length = k + 1 := by simp; omega
                have e3 : 0 + a + 1 + (k - a) = k + 1 := by omega
                have hacc4 := hacc3.less hwb
                rw [e3] at hacc4
                refine ⟨k + 1, P.take a ++ (x1, x2) :: P.drop a, by omega, by go_num, hP', ?_, ?_, HI.out a ha HIA.out, HNE.out, hB2.out.trans ((HBX.out.mono (by omega)).trans (HY3.out.mono hwb))⟩
                · rw [flatT_ins]
                  exact hacc4
                · have := HN.out a
                  rw [HK.out]
                  exact this
              case measure => simp [intOf]; omega
            · have hdup : dupN s = true := by
                rcases Nat.eq_zero_or_pos a with h0 | h0
                · exact absurd (HD0.out h0) (by simp)
                · obtain ⟨n, hn⟩ : ∃ n, n + 1 = a := ⟨a - 1, by omega⟩
                  have hnP : n < P.length := by omega
                  have := HD1.out n hn hnP
                  exact HDI.out n hnP (by simpa using this.symm)
              have hRE := Lib.hid (show RE = 6 by rw [hre'.out, hdup]; rfl)
              have hRT := Lib.hid (show RT = [] by rw [hrt.out, hRE.out]; rfl)
              have HBX := Lib.hid hby
              clear hby HD0 HD1 HDI HNI HN HK HI hdup
              go_wp2
              refine bodyPost_ret (v := .tuple #[.string ⟨#[]⟩, .int .i64 6]) (by simp [results, Tryz.results20, go_sem]) rfl ?_
              exact ⟨by rw [hRT.out, hRE.out], hB1.out.trans ((hB2.out.trans (HBX.out.mono (by omega))).mono hB1.out.size)⟩
      · have hkl : k = s.length := by omega
        have hPs : P.Perm s := by
          have := HP.out
          rwa [List.take_of_length_le (by omega)] at this
        have hd : dupN s = false := by rw [← dupN_perm hPs]; exact HD.out
        have hPt := tsort_of hPs HS.out hd
        have hRE := Lib.hid (show RE = 0 by rw [hre'.out, hd]; rfl)
        have hRT := Lib.hid (show RT = dtext (fnv fstart (mt ++ srcLines P)) by rw [hrt.out, hRE.out, hPt]; rfl)
        have hS3 := (hacc.sl encT_len (by decide)).2
        have hsm := Lib.hid (fun x (hx : x ∈ P) => hs x (hPs.mem_iff.1 hx))
        have hB3 := Lib.hid (hB1.out.trans (hb.mono hB1.out.size))
        have hlen := Lib.hid (fun n => srcLines_len (P.take n) 1048576 (fun x hx => (hsm.out x (List.mem_of_mem_take hx)).1))
        have hp1 : P.length ≤ k := by omega
        have hp2 : k ≤ P.length := by omega
        clear hPs hd hPt HP HS HD hacc hb hre' hrt hs hPk hkl
        go_wp2
        go_loopw [4, 77] (fun v i wr => ∃ j, j ≤ P.length ∧ i = .int .i64 (j : Nat) ∧ v = .string ⟨(mt ++ srcLines (P.take j)).toArray⟩ ∧ Below wo.heap.size wo wr) (fun _ i _ => P.length - (intOf i).toNat)
        case atStart => exact ⟨0, Nat.zero_le _, rfl, by simp [srcLines], Below.refl _ _⟩
        case round =>
          obtain ⟨j, hj, rfl, rfl, hb⟩ := hrel
          have hbz := hb.size
          have hpl : (mt ++ srcLines (P.take j)).length ≤ 5000000000000 := by
            have h1 := hlen.out j
            have h2 : (P.take j).length ≤ 1048576 := by simp; omega
            have h3 : (P.take j).length * (4 * 1048576 + 22) ≤ 1048576 * (4 * 1048576 + 22) := Nat.mul_le_mul_right _ h2
            have h4 : (srcLines (P.take j)).length ≤ 1048576 * (4 * 1048576 + 22) := Nat.le_trans h1 h3
            simp
            omega
          by_cases hjt : j < P.length
          · have hjt' : (j : Int) < (k : Int) := by omega
            obtain ⟨b, off, rfl, hbB, g0, g1⟩ := (hS3.below hb).src2 hjt
            have HN := Lib.hid (show mt ++ srcLines (P.take (j + 1)) = mt ++ srcLines (P.take j) ++ srcLine P[j] by rw [srcLines_take P j hjt]; simp)
            obtain ⟨hx1, hx2⟩ := hsm.out P[j] (List.getElem_mem hjt)
            generalize P[j] = x at g0 g1 HN hx1 hx2
            obtain ⟨nm, tx⟩ := x
            simp only at g0 g1 hx1 hx2
            have cq := Lib.hid (fun W => refQuote_any nm W (by omega))
            have cs := Lib.hid (fun W => refSum_any tx W hx2)
            have hft := fnv_lt fstart tx (by decide)
            have ct := Lib.hid (fun W => refText_any (fnv fstart tx) W hft)
            have hql := qtext_len nm
            have htl : (dtext (fnv fstart tx)).length ≤ 18 := Nat.le_of_eq (dtext_len _)
            have hln := Lib.hid (show srcLine (nm, tx) = qtext nm ++ [32] ++ dtext (fnv fstart tx) ++ [10] from rfl)
            generalize dtext (fnv fstart tx) = td at ct htl hln
            generalize fnv fstart tx = ft at cs ct hft
            generalize qtext nm = qn at cq hql hln
            rw [hln.out] at HN
            generalize mt ++ srcLines (P.take j) = pre at HN hpl ⊢
            have n1 : ¬ 9223372036854775807 < pre.length + qn.length := by omega
            have n2 : ¬ 9223372036854775807 < pre.length + qn.length + 1 := by omega
            have n3 : ¬ 9223372036854775807 < pre.length + qn.length + 1 + td.length := by omega
            have n4 : ¬ 9223372036854775807 < pre.length + qn.length + 1 + td.length + 1 := by omega
            go_wp2
            go_region_held3 (fun W => W.cell? ⟨wr.heap.size, 0, none⟩ = some (.string ⟨nm.toArray⟩) ∧ W.cell? ⟨wr.heap.size, 1, none⟩ = some (.string ⟨tx.toArray⟩)) (first | (simp; done) | (go_split_ands; (repeat' apply And.intro) <;> (first | assumption | (apply cell_keep; assumption; assumption) | (apply cell_keep_alloc; assumption))))
              (first | (go_at_call 33; refine (cq.out _).mono ?_; rintro e w4 ⟨rfl, hb4⟩) | (go_at_call 13; refine (cs.out _).mono ?_; rintro e w5 ⟨rfl, rfl⟩) | (go_at_call 15; refine (ct.out _).mono ?_; rintro e w6 ⟨rfl, rfl⟩))
            all_goals have hB7 := Lib.hid ((hb.alloc hbz (.cells #[.string ⟨nm.toArray⟩, .string ⟨tx.toArray⟩] 56)).drew.trans (hb4.mono (by simp; omega)))
            all_goals go_wp2
            all_goals go_roundw
            case rel =>
              refine ⟨j + 1, by omega, by go_num, ?_, hB7.out⟩
              rw [HN.out, show ({ data := #[32] } : ByteArray) = ⟨([32] : List UInt8).toArray⟩ from rfl, show ({ data := #[10] } : ByteArray) = ⟨([10] : List UInt8).toArray⟩ from rfl]
              simp only [ByteArray.mk_append_mk]
              simp
            case measure => simp [intOf]; omega
          · have hjt' : ¬ (j : Int) < (k : Int) := by omega
            have hmp : mt ++ srcLines (P.take j) = mt ++ srcLines P := by rw [List.take_of_length_le (by omega)]
            rw [hmp] at hpl ⊢
            generalize mt ++ srcLines P = all at hpl hRT
            have cs := Lib.hid (fun W => refSum_any all W (by unfold maxLen; omega))
            have hft := fnv_lt fstart all (by decide)
            generalize fnv fstart all = q at cs hft hRT
            have ct := Lib.hid (fun W => refText_any q W hft)
            generalize dtext q = td at ct hRT
            go_wp2_with (first | (go_at_call 13; refine (cs.out _).mono ?_; rintro e w5 ⟨rfl, rfl⟩) | (go_at_call 15; refine (ct.out _).mono ?_; rintro e w6 ⟨rfl, rfl⟩))
            refine bodyPost_ret (v := .tuple #[.string ⟨td.toArray⟩, .int .i64 0]) (by simp [results, Tryz.results20, go_sem]) rfl ?_
            exact ⟨by rw [hRT.out, hRE.out], hB3.out.trans (hb.mono hB3.out.size)⟩
  · have hE' : (E != 0) = true := by simpa using hE
    have hRE := Lib.hid (show RE = E by rw [hre.out, if_pos hE])
    have hRT := Lib.hid (show RT = [] by rw [hrt.out, if_neg (by rw [hRE.out]; exact hE)])
    clear hrt hre hE
    go_enter Tryz.func20, Tryz.ntmps20
    go_wp2_with (go_at_call 32; refine cT.out.mono ?_; rintro e w1 ⟨rfl, hb1⟩)
    refine bodyPost_ret (v := .tuple #[.string ⟨#[]⟩, .int .i64 E]) (by simp [results, Tryz.results20, go_sem]) rfl ?_
    exact ⟨by rw [hRT.out, hRE.out], hB0.trans (hb1.mono (by simp))⟩
end Go.Proofs.YtabmidnamaaklaaGreatDoor

namespace Go.Proofs.YtabmidnamaaklaaGreatDoor
open Go.RowKit Go.Sort

/-- the lines of the releases of one module -/
def pick (L : List Rel) (m : Mod) : List (List UInt8) := (L.filter fun r => decide (r.1 = m)).map rline
theorem pick_take (L : List Rel) (m : Mod) (k : Nat) (h : k < L.length) : pick (L.take (k + 1)) m = pick (L.take k) m ++ if L[k].1 = m then [rline L[k]] else [] := by
  unfold pick
  rw [List.take_succ_eq_append_getElem h, List.filter_append, List.map_append]
  congr 1
  by_cases hm : L[k].1 = m
  · simp [hm]
  · simp [hm]
theorem pick_len (L : List Rel) (m : Mod) : (pick L m).length ≤ L.length := by
  unfold pick
  rw [List.length_map]
  exact List.length_filter_le _ _
def picks (L : List Rel) (M : List Mod) : List (List UInt8) := M.flatMap (pick L)
theorem picks_take (L : List Rel) (M : List Mod) (j : Nat) (h : j < M.length) : picks L (M.take (j + 1)) = picks L (M.take j) ++ pick L M[j] := by
  unfold picks
  rw [List.take_succ_eq_append_getElem h, List.flatMap_append]
  simp
theorem picks_len (L : List Rel) (M : List Mod) : (picks L M).length ≤ M.length * L.length := by
  unfold picks
  induction M with
  | nil => simp
  | cons m M ih =>
    have := pick_len L m
    simp only [List.flatMap_cons, List.length_append, List.length_cons, Nat.add_mul, Nat.one_mul]
    omega
theorem filter_one {L : List Rel} (hn : (L.map (·.1)).Nodup) {r : Rel} (hr : r ∈ L) : (L.filter fun x => decide (x.1 = r.1)) = [r] := by
  induction L with
  | nil => cases hr
  | cons a l ih =>
    rw [List.map_cons, List.nodup_cons] at hn
    rcases List.mem_cons.1 hr with rfl | hr'
    · have h0 : (l.filter fun x => decide (x.1 = r.1)) = [] := by
        rw [List.filter_eq_nil_iff]
        intro x hx h
        simp at h
        exact hn.1 (List.mem_map.2 ⟨x, hx, h⟩)
      rw [List.filter_cons_of_pos (by simp), h0]
    · have hne : ¬ a.1 = r.1 := fun h => hn.1 (by rw [h]; exact List.mem_map.2 ⟨r, hr', rfl⟩)
      rw [List.filter_cons_of_neg (by simpa using hne), ih hn.2 hr']
theorem msort_perm (l : List Mod) : (msort l).Perm l := List.mergeSort_perm l _
theorem msort_sorted (l : List Mod) : (msort l).Pairwise (leOf (ltOf mcmp)) := by
  have hto : ∀ a b : Mod, ((!(ltOf mcmp) b a) || (!(ltOf mcmp) a b)) = true := fun a b => by
    cases hab : (ltOf mcmp) a b
    · simp
    · have := le_of_lt mlt_swo hab
      unfold leOf at this
      simp [this]
  have htr : ∀ a b c : Mod, (!(ltOf mcmp) b a) = true → (!(ltOf mcmp) c b) = true → (!(ltOf mcmp) c a) = true := fun a b c h1 h2 => by
    simp at *; exact mlt_swo.ntrans c b a h2 h1
  exact (List.pairwise_mergeSort htr hto l).imp (fun h => by simpa [leOf] using h)
theorem esort_keys (L : List Rel) : (esort (L.map entOf)).map (·.1) = msort (L.map (·.1)) := by
  refine sorted_eq mlt_swo mlt_total _ _ ?_ ?_
  · rw [List.pairwise_map]
    exact (esort_sorted (L.map entOf)).imp (fun h => h)
  · have := (esort_perm (L.map entOf)).map (·.1)
    rwa [ents_keys] at this
theorem picks_eq (L : List Rel) (h : lerr L = 0) : picks L (msort (L.map (·.1))) = lout L := by
  obtain ⟨_, hn⟩ := lerr_zero L h
  have hl : lout L = (esort (L.map entOf)).map (·.2) := by unfold lout; rw [if_pos h]
  rw [hl, ← esort_keys]
  unfold picks
  rw [List.flatMap_map]
  have hp := esort_perm (L.map entOf)
  have : ∀ (E : List Ent), (∀ e ∈ E, e ∈ L.map entOf) → E.flatMap (fun e => pick L e.1) = E.flatMap (fun e => [e.2]) := by
    intro E
    induction E with
    | nil => intro _; rfl
    | cons e E ih =>
      intro hE
      rw [List.flatMap_cons, List.flatMap_cons, ih (fun x hx => hE x (by simp [hx]))]
      congr 1
      obtain ⟨r, hr, rfl⟩ := List.mem_map.1 (hE e (by simp))
      show pick L r.1 = [rline r]
      unfold pick
      rw [filter_one hn hr]
      rfl
  rw [this _ (fun e he => hp.mem_iff.1 he), ← List.map_eq_flatMap]
theorem lerr_dup (L : List Rel) (h : ferr L = 0) (hn : ¬ (L.map (·.1)).Nodup) : lerr L = 6 := by
  unfold lerr
  rw [if_neg (by rw [h]; decide), if_neg hn]
theorem lerr_ok (L : List Rel) (h : ferr L = 0) (hn : (L.map (·.1)).Nodup) : lerr L = 0 := by
  unfold lerr
  rw [if_neg (by rw [h]; decide), if_pos hn]
end Go.Proofs.YtabmidnamaaklaaGreatDoor

namespace Go.Proofs.YtabmidnamaaklaaGreatDoor
open Go.RowKit Go.Sort

/-- a release that the reference can take -/
structure RelB (w : World) (r : RelA) : Prop where
  ok : RelOk w r
  hs : r.s.length ≤ 1048576
  hn : ∀ x ∈ r.s, x.1.length ≤ 1048576
theorem RelB.below {w w' : World} {r : RelA} (h : RelB w r) (hb : Below w.heap.size w w') : RelB w' r := ⟨h.ok.below hb, h.hs, h.hn⟩
theorem refRel_any (r : RelA) (w : World) (h : RelB w r) :
    Calls Tryz.prog 20 #[.agg #[.string ⟨r.m.1.toArray⟩, .int .i64 r.m.2.1, .int .i64 r.m.2.2.1, .int .i64 r.m.2.2.2, .slice r.A r.l.length r.c, .slice r.A' r.s.length r.c']] w fun e w' => e = .returned (.tuple #[.string ⟨(rtext r.rel).toArray⟩, .int .i64 (rerr r.rel)]) ∧ Below w.heap.size w w' :=
  refRelease_any r.m r.A r.c r.l r.A' r.c' r.s w h.ok.hA h.ok.hS h.ok.hl h.hs h.ok.hm (fun x hx => ⟨h.hn x hx, (h.ok.hs x hx).2⟩)

/-- a list of strings, with an error -/
def RetL (w : World) (x : List (List UInt8)) (E : Int) (e : Ending) (w' : World) : Prop :=
  ∃ A c, e = .returned (.tuple #[.slice A x.length c, .int .i64 E]) ∧ Sl w' w'.heap.size 1 encS A x ∧ Below w.heap.size w w'
theorem Acc.own_lt {w : World} {base e size n : Nat} {v : Value} {xs : List Value} (h : Acc w base e size v n xs) {b : Nat} (hb : v.ownBlock = some b) : b < w.heap.size := by
  rcases h with h | ⟨_, g, off, rfl, hlt, _⟩
  · exact (h.lt b hb).2
  · simp [Value.ownBlock] at hb
    omega
/-- the modules of releases -/
def mods (L : List RelA) : List Mod := L.map fun r => r.m
theorem mods_take (L : List RelA) (k : Nat) (h : k < L.length) : (mods (L.take (k + 1))).flatMap encM = (mods (L.take k)).flatMap encM ++ encM L[k].m := by
  unfold mods
  rw [List.take_succ_eq_append_getElem h, List.map_append, List.flatMap_append]
  simp
set_option maxRecDepth 100000 in
set_option maxHeartbeats 8000000 in
theorem refList_any (A : Option Addr) (c : Nat) (L : List RelA) (w : World) (hA : Sl w w.heap.size 6 encR A L) (hok : ∀ r ∈ L, RelB w r) (hl : L.length ≤ 1000) :
    Calls Tryz.prog 22 #[.slice A L.length c] w (RetL w (lout (L.map RelA.rel)) (lerr (L.map RelA.rel))) := by
  have HOK := Lib.hid hok
  clear hok
  generalize hR : RetL w (lout (L.map RelA.rel)) (lerr (L.map RelA.rel)) = R
  have HR := Lib.hid hR
  clear hR
  go_enter Tryz.func22, Tryz.ntmps22
  go_wp2
  go_loopw [4, 18] (fun v i wr => ∃ k, k ≤ L.length ∧ i = .int .i64 (k : Nat) ∧ Acc wr w.heap.size 34 4 v k ((mods (L.take k)).flatMap encM) ∧ Hid (∀ j, j < k → ∀ hj : j < L.length, rerr L[j].rel = 0) ∧ Below w.heap.size w wr)
    (fun _ i _ => L.length - (intOf i).toNat)
  case atStart => exact ⟨0, Nat.zero_le _, rfl, Acc.nil_ _ _ _ _, fun j h => by omega, Below.refl _ _⟩
  case round =>
    obtain ⟨k, hk, rfl, hacc, HZ, hb⟩ := hrel
    have hbz := hb.size
    by_cases hlt : k < L.length
    · have hlt' : (k : Int) < (L.length : Int) := by omega
      obtain ⟨b, off, rfl, hbB, g0, g1, g2, g3, g4, g5⟩ := (hA.below hb).rel hlt
      have hrk := (HOK.out L[k] (List.getElem_mem hlt)).below hb
      have HN := Lib.hid (mods_take L k hlt)
      have HE := Lib.hid (fun h => ferr_at (L.map RelA.rel) k (by simpa using hlt) (fun j hj => by have := HZ.out j hj (by omega); simpa using this) (by simpa using h) : rerr L[k].rel ≠ 0 → _)
      have HZ' := Lib.hid (fun h => (fun j hj hjl => by
        rcases (show j < k ∨ j = k by omega) with h' | rfl
        · exact HZ.out j h' hjl
        · exact h : ∀ j, j < k + 1 → ∀ hj : j < L.length, rerr L[j].rel = 0) : rerr L[k].rel = 0 → _)
      have hget := Lib.hid (show (L.map RelA.rel)[k]'(by simpa using hlt) = L[k].rel by simp)
      have HE' := Lib.hid (fun (h : rerr L[k].rel ≠ 0) => (HE.out h).trans (congrArg rerr hget.out))
      clear HE hget
      generalize L[k] = r at g0 g1 g2 g3 g4 g5 hrk HN HE' HZ'
      have cR := Lib.hid (refRel_any r (wr.alloc (.cells #[.string ⟨r.m.1.toArray⟩, .int .i64 r.m.2.1, .int .i64 r.m.2.2.1, .int .i64 r.m.2.2.2, .slice r.A r.l.length r.c, .slice r.A' r.s.length r.c'] 40)) (hrk.below ((Below.refl _ _).alloc (Nat.le_refl _) _)))
      clear hrk
      generalize r.rel = rr at cR HE' HZ'
      generalize rerr rr = E at cR HE' HZ'
      by_cases hE : E = 0
      · have HZ2 := Lib.hid (HZ'.out hE)
        clear HZ' HE'
        subst hE
        have HACC := Lib.hid (hacc.alloc (.cells #[.string ⟨r.m.1.toArray⟩, .int .i64 r.m.2.1, .int .i64 r.m.2.2.1, .int .i64 r.m.2.2.2, .slice r.A r.l.length r.c, .slice r.A' r.s.length r.c'] 40))
        clear hacc
        go_wp2_with (first
          | (go_at_call 20; refine cR.out.mono ?_; rintro e w1 ⟨rfl, hb1⟩; have q0 := (Blk.new wr 40 #[.string ⟨r.m.1.toArray⟩, .int .i64 r.m.2.1, .int .i64 r.m.2.2.1, .int .i64 r.m.2.2.2, .slice r.A r.l.length r.c, .slice r.A' r.s.length r.c']).keep hb1; have k0 := q0.cell 0; have k1 := q0.cell 1; have k2 := q0.cell 2; have k3 := q0.cell 3; simp at k0 k1 k2 k3; clear q0; have hacc1 := HACC.out.below hb1; have hB1 := Lib.hid ((hb.alloc hbz (.cells #[.string ⟨r.m.1.toArray⟩, .int .i64 r.m.2.1, .int .i64 r.m.2.2.1, .int .i64 r.m.2.2.2, .slice r.A r.l.length r.c, .slice r.A' r.s.length r.c'] 40)).trans (hb1.mono (by simp; omega))); clear hb1)
          | (at_builtin; refine wpList_app _ rfl (.tmp 30) (.tmp 34) 35 rfl w.heap.size 34 4 40 elMod _ k _ rfl (hacc1.alloc _) _ 1 _ _ rfl (Src.lit _ 4 _ _ 1 rfl) (by simp [Value.oneCell']) (by simp only [maxLen]; omega) (by omega) (by have := hB1.out.size; simp; omega) ?_; intro v2 w2 hacc2 _ hb2 _ _; (have HB2 := Lib.hid ((hB1.out.alloc hB1.out.size _).trans hb2)); clear hb2))
        go_roundw
        case rel => exact ⟨k + 1, by omega, by go_num, by rw [HN.out]; exact hacc2, HZ2.out, HB2.out⟩
        case measure => simp [intOf]; omega
      · have hE' : (E != 0) = true := by simpa using hE
        have hfe := HE'.out hE
        have hle := Lib.hid (show lerr (L.map RelA.rel) = E by unfold lerr; rw [hfe, if_pos hE])
        have hlo := Lib.hid (show lout (L.map RelA.rel) = [] by unfold lout; rw [hle.out, if_neg hE])
        clear HZ' HE' hE hfe
        go_wp2_with (go_at_call 20; refine cR.out.mono ?_; rintro e w1 ⟨rfl, hb1⟩)
        show R (.returned (.tuple #[.slice none 0 0, .int .i64 E])) w1
        rw [← HR.out, hle.out, hlo.out]
        exact ⟨none, 0, rfl, .inl rfl, (hb.alloc hbz _).trans (hb1.mono (by simp; omega))⟩
    · have hlt' : ¬ (k : Int) < (L.length : Int) := by omega
      obtain rfl : k = L.length := by omega
      have hfe := Lib.hid (ferr_none (L.map RelA.rel) (fun j hj => by simpa using HZ.out j (by simpa using hj) (by simpa using hj)))
      obtain ⟨A4, c4, rfl⟩ := hacc.shape
      have hS := (hacc.sl encM_len (by decide)).2
      rw [List.take_length] at hS
      have hml : L.length = (mods L).length := by simp [mods]
      have hmm : mods L = (L.map RelA.rel).map (·.1) := by simp [mods, RelA.rel]
      have cS0 := refSorted_any A4 c4 (mods L) wr hS (by omega)
      rw [← hml] at cS0
      have cS := Lib.hid cS0
      have HML := Lib.hid (show (msort (mods L)).length = L.length by rw [msort_len, hml])
      have HPM := Lib.hid (show (msort (mods L)).Perm ((L.map RelA.rel).map (·.1)) by rw [← hmm]; exact msort_perm _)
      have HSM := Lib.hid (msort_sorted (mods L))
      have HPK := Lib.hid (show lerr (L.map RelA.rel) = 0 → picks (L.map RelA.rel) (msort (mods L)) = lout (L.map RelA.rel) from fun h => by rw [hmm]; exact picks_eq _ h)
      generalize msort (mods L) = M at cS HML HPM HSM HPK
      have hM1 : M.length ≤ L.length := Nat.le_of_eq HML.out
      have hM2 : L.length ≤ M.length := Nat.le_of_eq HML.out.symm
      clear hacc hS hml hmm cS0 HZ
      have HB := Lib.hid hb
      clear hb
      go_wp2_with fail
      refine cS.out.mono ?_
      rintro e w2 ⟨A5, c5, rfl, hS5, hb2⟩
      have hB2 := Lib.hid (HB.out.trans (hb2.mono hbz))
      clear hb2 cS
      go_wp2_with fail
      go_loopw [9, 41] (fun v i wr2 => ∃ j, j ≤ M.length ∧ i = .int .i64 (j : Nat) ∧ Acc wr2 w2.heap.size 9 1 v (picks (L.map RelA.rel) (M.take j)).length (strs (picks (L.map RelA.rel) (M.take j))) ∧ Hid (∀ i, i + 1 < j → ∀ h : i + 1 < M.length, M[i] ≠ M[i + 1]) ∧ Below w2.heap.size w2 wr2)
        (fun _ i _ => M.length - (intOf i).toNat)
      case atStart => exact ⟨0, Nat.zero_le _, rfl, Acc.nil_ _ _ _ _, fun j h => by omega, Below.refl _ _⟩
      case round =>
        rename World => wq
        obtain ⟨j, hj, rfl, hown, HA, hbq⟩ := hrel
        obtain ⟨A6, c6, rfl⟩ := hown.shape
        have hbqz := hbq.size
        by_cases hjt : j < M.length
        · have hjt' : (j : Int) < (L.length : Int) := by omega
          obtain ⟨D, hD0, hD1⟩ : ∃ D : Bool, (j = 0 → D = false) ∧ (∀ n, n + 1 = j → ∀ h : n < M.length, D = decide (M[n] = M[j])) := by
            rcases j with _ | n
            · exact ⟨false, fun _ => rfl, fun n hn => by omega⟩
            · exact ⟨decide (M[n] = M[n + 1]), fun h => by omega, fun n' hn' h => by
                obtain rfl : n' = n := by omega
                rfl⟩
          have HT := Lib.hid (show D = true → ¬ (M.map id).Nodup from fun h => by
            rcases Nat.eq_zero_or_pos j with h0 | h0
            · rw [hD0 h0] at h; cases h
            · have h1 := hD1 (j - 1) (by omega) (by omega)
              rw [h] at h1
              exact keyed_dup (f := id) j h0 hjt (by simpa using h1.symm))
          have HF := Lib.hid (show D = false → ∀ i, i + 1 < j + 1 → ∀ h : i + 1 < M.length, M[i] ≠ M[i + 1] from fun h => by
            rcases Nat.eq_zero_or_pos j with h0 | h0
            · intro i hi; omega
            · have h1 := hD1 (j - 1) (by omega) (by omega)
              rw [h] at h1
              exact keyed_step (f := id) j h0 hjt HA.out (by simpa using h1.symm))
          have HD0 := Lib.hid hD0
          have HD1 := Lib.hid hD1
          have HPT := Lib.hid (picks_take (L.map RelA.rel) M j hjt)
          have hlen0 : (picks (L.map RelA.rel) (M.take j)).length ≤ 1000 * 1000 := by
            have h1 := picks_len (L.map RelA.rel) (M.take j)
            have h2 : (M.take j).length ≤ 1000 := by simp; omega
            have h3 : (L.map RelA.rel).length ≤ 1000 := by simp; omega
            exact Nat.le_trans h1 (Nat.mul_le_mul h2 h3)
          have HLEN := Lib.hid (show ∀ k m, (picks (L.map RelA.rel) (M.take j) ++ pick ((L.map RelA.rel).take k) m).length ≤ 1001000 from fun k m => by
            have h1 := pick_len ((L.map RelA.rel).take k) m
            have h2 : ((L.map RelA.rel).take k).length ≤ 1000 := by simp; omega
            rw [List.length_append]
            omega)
          clear hD0 hD1 hlen0
          generalize picks (L.map RelA.rel) (M.take j) = pre at hown HPT HLEN
          obtain ⟨b5, off5, rfl, hb5, m0, m1, m2, m3⟩ := (hS5.below hbq).mod hjt
          generalize hMj : M[j] = m at m0 m1 m2 m3 HD1 HPT
          clear hMj
          have hne0 : some wq.heap.size ≠ (Value.slice A6 pre.length c6).ownBlock := fun e => by have := hown.own_lt e.symm; omega
          go_upto_region 15 with fail
          have hbW := hbq.alloc hbqz (.cells #[.string ⟨m.1.toArray⟩, .int .i64 m.2.1, .int .i64 m.2.2.1, .int .i64 m.2.2.2] 34)
          have hownW := hown.alloc (.cells #[.string ⟨m.1.toArray⟩, .int .i64 m.2.1, .int .i64 m.2.2.1, .int .i64 m.2.2.2] 34)
          have q0 := Blk.new wq 34 #[.string ⟨m.1.toArray⟩, .int .i64 m.2.1, .int .i64 m.2.2.1, .int .i64 m.2.2.2]
          have hzz : (wq.alloc (.cells #[.string ⟨m.1.toArray⟩, .int .i64 m.2.1, .int .i64 m.2.2.1, .int .i64 m.2.2.2] 34)).heap.size = wq.heap.size + 1 := by simp
          clear m0 m1 m2 m3 hown hbq
          generalize wq.alloc (.cells #[.string ⟨m.1.toArray⟩, .int .i64 m.2.1, .int .i64 m.2.2.1, .int .i64 m.2.2.2] 34) = W0 at hbW hownW q0 hzz ⊢
          generalize wq.heap.size = g at q0 hzz hbqz hne0 ⊢
          have Q2 := Lib.hid q0
          have HOWN := Lib.hid hownW
          have HBW := Lib.hid hbW
          have hW0z := hbW.size
          clear hownW hbW
          go_cut [56] (fun t wx => t = .bool D ∧ Below W0.heap.size W0 wx)
          case first =>
            have p0 := q0.cell 0; have p1 := q0.cell 1; have p2 := q0.cell 2; have p3 := q0.cell 3
            simp at p0 p1 p2 p3
            clear q0
            by_cases h0 : 0 < j
            · obtain ⟨n, hn⟩ : ∃ n, n + 1 = j := ⟨j - 1, by omega⟩
              have d0 : decide (0 < j) = true := decide_eq_true h0
              have d1 : decide ((0 : Int) < (j : Int)) = true := decide_eq_true (by omega)
              have hw : IntKind.i64.wrap ((j : Int) - 1) = (n : Int) := by simp [IntKind.wrap, IntKind.bits, IntKind.signed]; omega
              have hnM : n < M.length := by omega
              have hnL : (n : Int) < (L.length : Int) := by omega
              obtain ⟨b6, off6, e6, _, f0, f1, f2, f3⟩ := (hS5.below HBW.out).mod hnM
              obtain ⟨rfl, rfl⟩ : b5 = b6 ∧ off5 = off6 := by simpa using e6
              have hDn := HD1.out n hn hnM
              generalize M[n] = y at f0 f1 f2 f3 hDn
              have heq := fun W => eq_mod y.1 m.1 y.2.1 y.2.2.1 y.2.2.2 m.2.1 m.2.2.1 m.2.2.2 W
              by_cases hs : y = m
              · rw [decide_eq_true hs] at hDn
                rw [decide_eq_true (show (y.1, y.2.1, y.2.2.1, y.2.2.2) = (m.1, m.2.1, m.2.2.1, m.2.2.2) from hs)] at heq
                have HDn := Lib.hid hDn
                clear hDn hs e6
                go_wp2
                go_quiet (fail)
                go_wp2
                go_meet
                case rel => exact ⟨by rw [HDn.out], (Below.refl _ _).drewN _⟩
              · rw [decide_eq_false hs] at hDn
                rw [decide_eq_false (show ¬ (y.1, y.2.1, y.2.2.1, y.2.2.2) = (m.1, m.2.1, m.2.2.1, m.2.2.2) from hs)] at heq
                have HDn := Lib.hid hDn
                clear hDn hs e6
                go_wp2
                go_quiet (fail)
                go_wp2
                go_meet
                case rel => exact ⟨by rw [HDn.out], (Below.refl _ _).drewN _⟩
            · have HDn := Lib.hid (HD0.out (by omega))
              have d0 : decide (0 < j) = false := decide_eq_false h0
              have d1 : decide ((0 : Int) < (j : Int)) = false := decide_eq_false (by omega)
              go_wp2
              go_quiet (fail)
              go_wp2
              go_meet
              case rel => exact ⟨by rw [HDn.out], (Below.refl _ _).drewN _⟩
          case rest =>
            obtain ⟨rfl, hby⟩ := hcut
            have HBY := Lib.hid hby
            have hyz := hby.size
            clear q0 hby HD0 HD1
            cases D
            · have HA' := Lib.hid (HF.out rfl)
              have hown0 := HOWN.out.below HBY.out
              have HB0 := Lib.hid (HBW.out.trans (HBY.out.mono hW0z))
              have q := (Q2.out.keep HBY.out).cell
              have p0 := q 0; have p1 := q 1; have p2 := q 2; have p3 := q 3
              simp at p0 p1 p2 p3
              have hgz : g < wc.heap.size := by omega
              clear q HT HF
              go_wp2_with fail
              go_loopw [9, 59] (fun v i wr => ∃ k, k ≤ L.length ∧ i = .int .i64 (k : Nat) ∧ Acc wr w2.heap.size 9 1 v (pre ++ pick ((L.map RelA.rel).take k) m).length (strs (pre ++ pick ((L.map RelA.rel).take k) m)) ∧ some g ≠ v.ownBlock ∧ wr.cell? ⟨g, 0, none⟩ = some (.string ⟨m.1.toArray⟩) ∧ wr.cell? ⟨g, 1, none⟩ = some (.int .i64 m.2.1) ∧ wr.cell? ⟨g, 2, none⟩ = some (.int .i64 m.2.2.1) ∧ wr.cell? ⟨g, 3, none⟩ = some (.int .i64 m.2.2.2) ∧ Below w2.heap.size w2 wr)
                (fun _ i _ => L.length - (intOf i).toNat)
              case atStart => exact ⟨0, Nat.zero_le _, rfl, by simpa [pick] using hown0, hne0, p0, p1, p2, p3, HB0.out⟩
              case round =>
                rename World => wi
                obtain ⟨k, hk, rfl, howi, hnei, f0, f1, f2, f3, hbi⟩ := hrel
                obtain ⟨A7, c7, rfl⟩ := howi.shape
                have hbiz := hbi.size
                have HBI := Lib.hid hbi
                have HBI2 := Lib.hid (hB2.out.trans (hbi.mono hB2.out.size))
                have hgi : g < wi.heap.size := lt_of_cell f0
                by_cases hkt : k < L.length
                · have hkt' : (k : Int) < (L.length : Int) := by omega
                  obtain ⟨b, off, rfl, hbB, g0, g1, g2, g3, g4, g5⟩ := (hA.below HBI2.out).rel hkt
                  have hrk := (HOK.out L[k] (List.getElem_mem hkt)).below HBI2.out
                  have HX := Lib.hid (show pick ((L.map RelA.rel).take (k + 1)) m = pick ((L.map RelA.rel).take k) m ++ if (L[k]).m = m then [rline (L[k]).rel] else [] by
                    rw [pick_take _ _ _ (by simpa using hkt)]
                    simp [RelA.rel])
                  have hlk := HLEN.out k m
                  generalize L[k] = r at g0 g1 g2 g3 g4 g5 hrk HX
                  have heq := fun W => eq_mod r.m.1 m.1 r.m.2.1 r.m.2.2.1 r.m.2.2.2 m.2.1 m.2.2.1 m.2.2.2 W
                  by_cases hm : r.m = m
                  · subst hm
                    rw [decide_eq_true (show (r.m.1, r.m.2.1, r.m.2.2.1, r.m.2.2.2) = (r.m.1, r.m.2.1, r.m.2.2.1, r.m.2.2.2) from rfl)] at heq
                    have HX' := Lib.hid (show pick ((L.map RelA.rel).take (k + 1)) r.m = pick ((L.map RelA.rel).take k) r.m ++ [rline r.rel] by rw [HX.out, if_pos rfl])
                    have cR := Lib.hid (refRel_any r (wi.alloc (.cells #[.string ⟨r.m.1.toArray⟩, .int .i64 r.m.2.1, .int .i64 r.m.2.2.1, .int .i64 r.m.2.2.2, .slice r.A r.l.length r.c, .slice r.A' r.s.length r.c'] 40)) (hrk.below ((Below.refl _ _).alloc (Nat.le_refl _) _)))
                    have hrt := rtext_len r.rel
                    have hre : rline r.rel = r.m.1 ++ [32] ++ vtext r.m.2.1 r.m.2.2.1 r.m.2.2.2 ++ [32] ++ rtext r.rel := rfl
                    rw [hre] at HX'
                    have hpl := hrk.ok.hm r.m (by simp)
                    clear hre hrk HX
                    generalize r.rel = rr at cR hrt HX'
                    generalize rerr rr = E at cR
                    generalize rtext rr = rt at cR hrt HX'
                    have HOI := Lib.hid (howi.alloc (.cells #[.string ⟨r.m.1.toArray⟩, .int .i64 r.m.2.1, .int .i64 r.m.2.2.1, .int .i64 r.m.2.2.2, .slice r.A r.l.length r.c, .slice r.A' r.s.length r.c'] 40))
                    clear howi
                    have b0 : (pre ++ pick ((L.map RelA.rel).take k) r.m).length + 1 ≤ maxLen := by unfold maxLen; omega
                    have b1 : ((pre ++ pick ((L.map RelA.rel).take k) r.m).length + 1) * 16 ≤ 140737488355328 := by omega
                    have HPX := Lib.hid (show strs (pre ++ pick ((L.map RelA.rel).take (k + 1)) r.m) = strs (pre ++ pick ((L.map RelA.rel).take k) r.m) ++ [.string ⟨(r.m.1 ++ [32] ++ vtext r.m.2.1 r.m.2.2.1 r.m.2.2.2 ++ [32] ++ rt).toArray⟩] by rw [HX'.out, ← List.append_assoc]; exact strs_snoc _ _)
                    have HPL := Lib.hid (show (pre ++ pick ((L.map RelA.rel).take (k + 1)) r.m).length = (pre ++ pick ((L.map RelA.rel).take k) r.m).length + 1 by rw [HX'.out]; simp; omega)
                    clear HX'
                    generalize pre ++ pick ((L.map RelA.rel).take k) r.m = Y at hlk HOI b0 b1 HPX HPL hnei ⊢
                    go_wp2_with (go_at_call 20; refine cR.out.mono ?_; rintro e w4 ⟨rfl, hb4⟩)
                    have hb4' := ((Below.refl wi.heap.size wi).alloc (Nat.le_refl _) (.cells #[.string ⟨r.m.1.toArray⟩, .int .i64 r.m.2.1, .int .i64 r.m.2.2.1, .int .i64 r.m.2.2.2, .slice r.A r.l.length r.c, .slice r.A' r.s.length r.c'] 40)).trans (hb4.mono (by simp))
                    have e0 := cell_keep hb4' f0
                    have e1 := cell_keep hb4' f1
                    have e2 := cell_keep hb4' f2
                    have e3 := cell_keep hb4' f3
                    have z4 := hb4'.size
                    have HO1 := Lib.hid (HOI.out.below hb4)
                    have HB4 := Lib.hid hb4'
                    clear hb4 hb4' HOI cR f0 f1 f2 f3 p0 p1 p2 p3 g0 g1 g2 g3 g4 g5
                    have cV := Lib.hid (fun W => refvText_any r.m.2.1 r.m.2.2.1 r.m.2.2.2 W)
                    have lt := vtext_len r.m.2.1 r.m.2.2.1 r.m.2.2.2
                    generalize vtext r.m.2.1 r.m.2.2.1 r.m.2.2.2 = t at cV lt HPX
                    have n1 : ¬ 9223372036854775807 < r.m.1.length + 1 := by omega
                    have n2 : ¬ 9223372036854775807 < r.m.1.length + 1 + t.length := by omega
                    have n3 : ¬ 9223372036854775807 < r.m.1.length + 1 + t.length + 1 := by omega
                    have n4 : ¬ 9223372036854775807 < r.m.1.length + 1 + t.length + 1 + rt.length := by omega
                    go_region_held3 (fun W => W.cell? ⟨g, 0, none⟩ = some (.string ⟨r.m.1.toArray⟩) ∧ W.cell? ⟨g, 1, none⟩ = some (.int .i64 r.m.2.1) ∧ W.cell? ⟨g, 2, none⟩ = some (.int .i64 r.m.2.2.1) ∧ W.cell? ⟨g, 3, none⟩ = some (.int .i64 r.m.2.2.2))
                      (first | (simp; done) | (go_split_ands; (repeat' apply And.intro) <;> (first | assumption | (apply cell_keep; assumption; assumption) | (apply cell_keep_alloc; assumption) | (apply own_keep; assumption; assumption; assumption))))
                      (first | (go_at_call 38; refine (cV.out _).mono ?_; rintro e w5 ⟨rfl, hb5⟩; have HO2 := Lib.hid (Acc.below (w := w4.drew) HO1.out hb5); have z5 := hb5.size; simp at z5) | (refine step_app _ rfl (.tmp 73) (.tmp 84) 45 rfl w2.heap.size 9 1 16 elStr (.slice A7 Y.length c7) Y.length _ rfl (HO2.out.alloc _) _ 1 _ _ rfl (Src.lit _ 1 _ _ 1 rfl) (by simp [Value.oneCell']) b0 b1 (by simp; omega) ?_; intro v' w6 hacc6 hgrow6 hb6 _ hor6))
                    rename_i hh
                    obtain ⟨hh0, hh1, hh2, hh3⟩ := hh
                    have ee : (({ data := r.m.1.toArray } : ByteArray) ++ { data := #[32] } ++ { data := t.toArray } ++ { data := #[32] } ++ { data := rt.toArray }) = ⟨(r.m.1 ++ [32] ++ t ++ [32] ++ rt).toArray⟩ := by
                      rw [show ({ data := #[32] } : ByteArray) = ⟨([32] : List UInt8).toArray⟩ from rfl]
                      simp only [ByteArray.mk_append_mk]
                    rw [ee] at hacc6
                    have HV := Lib.hid (show some g ≠ v'.ownBlock from fun e => by
                      rcases hor6 with h | ⟨g', h, hg'⟩
                      · rw [h] at e; exact hnei e
                      · rw [h] at e
                        simp at e hg'
                        omega)
                    have HBF := Lib.hid ((((HBI.out.trans (HB4.out.mono hbiz)).drew.trans (hb5.mono (by simp; omega))).alloc (by omega) _).trans hb6)
                    have HACC := Lib.hid hacc6
                    clear hacc6 hgrow6 hb6 hor6 hb5 ee HO2
                    go_wp2
                    go_roundw
                    case rel => exact ⟨k + 1, by omega, by go_num, by rw [HPX.out, HPL.out]; exact HACC.out, HV.out, hh0, hh1, hh2, hh3, HBF.out⟩
                    case measure => simp [intOf]; omega
                  · rw [decide_eq_false (show ¬ (r.m.1, r.m.2.1, r.m.2.2.1, r.m.2.2.2) = (m.1, m.2.1, m.2.2.1, m.2.2.2) from hm)] at heq
                    have HX' := Lib.hid (show pick ((L.map RelA.rel).take (k + 1)) m = pick ((L.map RelA.rel).take k) m by rw [HX.out, if_neg hm]; simp)
                    have HOI := Lib.hid (howi.alloc (.cells #[.string ⟨r.m.1.toArray⟩, .int .i64 r.m.2.1, .int .i64 r.m.2.2.1, .int .i64 r.m.2.2.2, .slice r.A r.l.length r.c, .slice r.A' r.s.length r.c'] 40))
                    clear HX hm hrk howi
                    go_wp2
                    go_roundw
                    case rel => exact ⟨k + 1, by omega, by go_num, by rw [HX'.out]; exact HOI.out, hnei, cell_keep_alloc (.cells #[.string ⟨r.m.1.toArray⟩, .int .i64 r.m.2.1, .int .i64 r.m.2.2.1, .int .i64 r.m.2.2.2, .slice r.A r.l.length r.c, .slice r.A' r.s.length r.c'] 40) f0, cell_keep_alloc (.cells #[.string ⟨r.m.1.toArray⟩, .int .i64 r.m.2.1, .int .i64 r.m.2.2.1, .int .i64 r.m.2.2.2, .slice r.A r.l.length r.c, .slice r.A' r.s.length r.c'] 40) f1, cell_keep_alloc (.cells #[.string ⟨r.m.1.toArray⟩, .int .i64 r.m.2.1, .int .i64 r.m.2.2.1, .int .i64 r.m.2.2.2, .slice r.A r.l.length r.c, .slice r.A' r.s.length r.c'] 40) f2, cell_keep_alloc (.cells #[.string ⟨r.m.1.toArray⟩, .int .i64 r.m.2.1, .int .i64 r.m.2.2.1, .int .i64 r.m.2.2.2, .slice r.A r.l.length r.c, .slice r.A' r.s.length r.c'] 40) f3, hbi.alloc hbiz _⟩
                    case measure => simp [intOf]; omega
                · have hkt' : ¬ (k : Int) < (L.length : Int) := by omega
                  have HX := Lib.hid (show picks (L.map RelA.rel) (M.take (j + 1)) = pre ++ pick ((L.map RelA.rel).take k) m by rw [HPT.out, List.take_of_length_le (by simp; omega)])
                  go_wp2
                  go_roundw
                  case rel => exact ⟨j + 1, by omega, by go_num, by rw [HX.out]; exact howi, HA'.out, HBI.out⟩
                  case measure => simp [intOf]; omega
            · have hnd : ¬ ((L.map RelA.rel).map (·.1)).Nodup := fun h => (HT.out rfl) (by rw [List.map_id]; exact HPM.out.nodup_iff.2 h)
              have HLE := Lib.hid (lerr_dup _ hfe.out hnd)
              have HLO := Lib.hid (lout_ne (L.map RelA.rel) (by rw [HLE.out]; decide))
              clear hnd HT HF
              go_wp2
              show R (.returned (.tuple #[.slice none 0 0, .int .i64 6])) _
              rw [← HR.out, HLE.out, HLO.out]
              exact ⟨none, 0, rfl, .inl rfl, hB2.out.trans ((HBW.out.trans (HBY.out.mono hW0z)).mono hB2.out.size)⟩
        · have hjt' : ¬ (j : Int) < (L.length : Int) := by omega
          obtain rfl : j = M.length := by omega
          have hnd : M.Nodup := by
            have := keyed_nodup (f := id) mlt_swo mlt_total (fun a b c h => by obtain rfl : a = b := h; rfl) HSM.out (fun i h => HA.out i (by omega) h)
            rwa [List.map_id] at this
          have HLE := Lib.hid (lerr_ok _ hfe.out (HPM.out.nodup_iff.1 hnd))
          have HLO := Lib.hid (HPK.out HLE.out)
          rw [List.take_length, HLO.out] at hown
          obtain ⟨_, hSx⟩ := hown.strs_
          have hpe : (picks (L.map RelA.rel) (M.take M.length)).length = (lout (L.map RelA.rel)).length := by rw [List.take_length, HLO.out]
          rw [hpe]
          go_wp2
          show R (.returned (.tuple #[.slice A6 (lout (L.map RelA.rel)).length c6, .int .i64 0])) _
          rw [← HR.out, HLE.out]
          exact ⟨A6, c6, rfl, hSx, hB2.out.trans (hbq.mono hB2.out.size)⟩
end Go.Proofs.YtabmidnamaaklaaGreatDoor
