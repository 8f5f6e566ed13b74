/- What the claim needs of: WN PQ PH PI PS1 PS2 PY. -/
import Derived.Test.YthcgihgajdjfoaaGreatDoorV8
import Derived.Test.YthcgihgajdjfoaaGreatDoorV1
import GoSem.Core.Utf8
namespace Go.Proofs.YthcgihgajdjfoaaGreatDoor
open Go.RowKit Go.Sort
def wMod : List UInt8 := [109, 111, 100, 117, 108, 101]
def wReq : List UInt8 := [114, 101, 113, 117, 105, 114, 101]
def lineM (s : List UInt8) (m : Mod) : List UInt8 := lineT s m.1 m.2.1 m.2.2.1 m.2.2.2
def linesM (l : List Mod) : List UInt8 := l.flatMap (lineM wReq)
def mtext (m : Mod) (l : List Mod) : List UInt8 := if mcheck m l = 0 then lineM wMod m ++ linesM (msort l) else []
theorem pathOk_len (p : List UInt8) (h : pathOk p = true) : p.length ≤ 60 := by
 simp [pathOk] at h; exact h.1
theorem mcheck_ok (m : Mod) (l : List Mod) (h : mcheck m l = 0) : l.length ≤ 64 ∧ ∀ x ∈ m :: l, x.1.length ≤ 60 := by
 unfold mcheck at h
 split at h
 ·omega
 ·rename_i h1
  split at h
  ·omega
  ·split at h
   ·omega
   ·split at h
    ·omega
    ·refine ⟨by omega, fun x hx => pathOk_len _ ?_⟩
     have : ¬ badPath x = true := fun hb => h1 (List.any_eq_true.2 ⟨x, hx, hb⟩)
     simpa [badPath] using this
theorem lineM_len (s : List UInt8) (m : Mod) (hs : s.length ≤ 10) (hm : m.1.length ≤ 60) : (lineM s m).length ≤ 100 := by
 have := vtext_len m.2.1 m.2.2.1 m.2.2.2
 simp [lineM, lineT]; omega
theorem linesM_take (l : List Mod) (k : Nat) (h : k < l.length) : linesM (l.take (k + 1)) = linesM (l.take k) ++ lineM wReq l[k] := by
 unfold linesM
 rw [List.take_succ_eq_append_getElem h, List.flatMap_append]
 simp
theorem linesM_len (l : List Mod) (hp : ∀ x ∈ l, x.1.length ≤ 60) : (linesM l).length ≤ 100 * l.length := by
 induction l with
 | nil => simp [linesM]
 | cons x l ih =>
   have h1 := lineM_len wReq x (by decide) (hp x (by simp))
   have h2 := ih (fun y hy => hp y (by simp [hy]))
   unfold linesM at *
   simp only [List.flatMap_cons, List.length_append, List.length_cons]
   omega
theorem field_man (m : Mod) (A : Option Addr) (n c : Nat) : ∀ w, (Instr.field 29 (.agg #[.string ⟨m.1.toArray⟩, .int .i64 m.2.1, .int .i64 m.2.2.1, .int .i64 m.2.2.2, .slice A n c]) 1).run Tryz.prog w = .ok (.slice A n c) w := fun _ => by kernel_rfl
set_option maxRecDepth 100000 in
set_option maxHeartbeats 4000000 in
theorem mText_any (m : Mod) (A : Option Addr) (c : Nat) (l : List Mod) (w : World) (hA : Sl w w.heap.size 4 encM A l) (hl : l.length ≤ 1099511627776) (hs : ∀ x ∈ m :: l, x.1.length ≤ maxLen) (hG : Glob w) :
  Calls Tryz.prog 60 #[.agg #[.string ⟨m.1.toArray⟩, .int .i64 m.2.1, .int .i64 m.2.2.1, .int .i64 m.2.2.2, .slice A l.length c]] w fun e w' => e = .returned (.tuple #[.string ⟨(mtext m l).toArray⟩, .int .i64 (mcheck m l)]) ∧ Below w.heap.size w w' := by
 have cc := Lib.hid (Check_any m A c l (w.alloc (.cells #[.string ⟨m.1.toArray⟩, .int .i64 m.2.1, .int .i64 m.2.2.1, .int .i64 m.2.2.2, .slice A l.length c] 29)) ((hA.below ((Below.refl _ _).alloc (Nat.le_refl _) _)).more (by simp)) hl hs (hG.alloc _))
 have HA := Lib.hid hA
 have HG := Lib.hid hG
 have hok := Lib.hid (mcheck_ok m l)
 have hmt := Lib.hid (mtext.eq_1 m l)
 have cl1 := Lib.hid (fun (W : World) (h : m.1.length ≤ 60) (hW : Glob W) => line_any wMod m.1 m.2.1 m.2.2.1 m.2.2.2 W (by decide) (by omega) hW)
 clear hA hG
 generalize mcheck m l = E at cc hok hmt ⊢
 by_cases hE : E = 0
 ·subst hE
  obtain ⟨hl64, hp⟩ := hok.out rfl
  have hmt' := Lib.hid (show mtext m l = lineM wMod m ++ linesM (msort l) by rw [hmt.out]; rfl)
  clear hmt hok
  have cs := Lib.hid (fun (W : World) (hW : Below w.heap.size w W) => sorted_any m A c l W ((HA.out.below hW).more hW.size) hl)
  go_enter Tryz.func60, Tryz.ntmps60
  go_wp2_with (first
   | (go_at_call 67; refine cc.out.mono ?_; rintro e w1 ⟨rfl, hb1⟩;
      have q0 := (Blk.new w 29 #[.string ⟨m.1.toArray⟩, .int .i64 m.2.1, .int .i64 m.2.2.1, .int .i64 m.2.2.2, .slice A l.length c]).keep hb1;
      have hB1 := Lib.hid (((Below.refl w.heap.size w).alloc (Nat.le_refl _) _).trans (hb1.mono (by simp))); clear hb1;
      have k0 := q0.cell 0; have k1 := q0.cell 1; have k2 := q0.cell 2; have k3 := q0.cell 3; simp at k0 k1 k2 k3; have hq0 := Lib.hid q0; clear q0)
   | (go_at_call 103; refine (cl1.out _ (hp m (by simp)) (HG.out.keep hB1.out)).mono ?_; rintro e w2 ⟨rfl, hb2⟩;
      have q2 := hq0.out.keep hb2; have hB2 := Lib.hid (hB1.out.trans (hb2.mono hB1.out.size)); clear hb2;
      have j0 := q2.cell 0; have j1 := q2.cell 1; have j2 := q2.cell 2; have j3 := q2.cell 3; have j4 := q2.cell 4; simp at j0 j1 j2 j3 j4; clear q2)
   | (go_at_call 104; refine (cs.out _ hB2.out).mono ?_; rintro e w3 ⟨A3, c3, rfl, hS3, hb3⟩; have hB3 := Lib.hid (hB2.out.trans (hb3.mono hB2.out.size)); clear hb3; have fd := field_man m A3 l.length c3))
  have hll := msort_len l
  have hsm := Lib.hid (fun x (hx : x ∈ msort l) => hp x (by simp; exact .inr ((List.mergeSort_perm l _).mem_iff.1 hx)))
  have hsz3 := hB3.out.size
  generalize msort l = L at hS3 hll hsm hmt' ⊢
  have hlm := lineM_len wMod m (by decide) (hp m (by simp))
  have hG3 := Lib.hid (HG.out.keep hB3.out)
  clear HG cc cs cl1
  have e0 : ({ data := (lineT wMod m.1 m.2.1 m.2.2.1 m.2.2.2).toArray } : ByteArray) = { data := (lineM wMod m).toArray } := rfl
  rw [e0]
  clear e0
  go_wp2
  go_loopw [5, 20] (fun v i wr => ∃ k, k ≤ L.length ∧ i = .int .i64 (k : Nat) ∧ v = .string ⟨(lineM wMod m ++ linesM (L.take k)).toArray⟩ ∧ Below w3.heap.size w3 wr)
   (fun _ i _ => L.length - (intOf i).toNat)
  case atStart => exact ⟨0, Nat.zero_le _, rfl, by simp [linesM], Below.refl _ _⟩
  case round =>
   obtain ⟨k, hk, rfl, rfl, hb⟩ := hrel
   have hbz := hb.size
   have hlk := linesM_len (L.take k) (fun x hx => hsm.out x (List.mem_of_mem_take hx))
   by_cases hlt : k < L.length
   ·have hlt' : (k : Int) < (l.length : Int) := by omega
    obtain ⟨b, off, rfl, hbB, g0, g1, g2, g3⟩ := (hS3.below hb).mod hlt
    have hnext := Lib.hid (linesM_take L k hlt)
    have hxs := hsm.out L[k] (List.getElem_mem hlt)
    have hxl := lineM_len wReq L[k] (by decide) hxs
    generalize L[k] = x at g0 g1 g2 g3 hnext hxs hxl
    obtain ⟨s, x1, x2, x3⟩ := x
    simp only at g0 g1 g2 g3 hxs
    have cl := Lib.hid (line_any wReq s x1 x2 x3 (wr.alloc (.cells #[.string ⟨s.toArray⟩, .int .i64 x1, .int .i64 x2, .int .i64 x3] 26)) (by decide) (by omega) ((hG3.out.keep hb).alloc _))
    have hlen : (linesM (L.take k)).length ≤ 6400 := by
     have : (L.take k).length ≤ 64 := by simp; omega
     omega
    clear hlk
    change Hid (Calls _ _ _ _ fun e w' => e = .returned (.string ⟨(lineM wReq (s, x1, x2, x3)).toArray⟩) ∧ _) at cl
    generalize lineM wReq (s, x1, x2, x3) = ln at cl hxl hnext
    generalize linesM (L.take k) = pre at hlen hnext ⊢
    generalize lineM wMod m = hd at hlm hmt' ⊢
    have nn : ¬ 9223372036854775807 < hd.length + pre.length + ln.length := by omega
    go_wp2_with (go_at_call 103; refine cl.out.mono ?_; rintro e w4 ⟨rfl, hb4⟩)
    go_roundw
    case rel => exact ⟨k + 1, by omega, by go_num, by rw [hnext.out, ByteArray.mk_append_mk]; simp, (hb.alloc hbz _).trans (hb4.mono (by simp; omega))⟩
    case measure => simp [intOf]; omega
   ·obtain rfl : k = l.length := by omega
    go_wp2
    refine bodyPost_ret (v := .tuple #[.string ⟨(lineM wMod m ++ linesM L).toArray⟩, .int .i64 0]) (by simp [results, Tryz.results60, go_sem, List.take_of_length_le (Nat.le_of_eq hll)]) rfl ?_
    exact ⟨by rw [hmt'.out], hB3.out.trans (hb.mono hsz3)⟩
 ·have hE' : (E != 0) = true := by simpa using hE
  have hmt' := Lib.hid (show mtext m l = [] by rw [hmt.out, if_neg hE])
  clear hE
  go_enter Tryz.func60, Tryz.ntmps60
  go_wp2_with (go_at_call 67; refine cc.out.mono ?_; rintro e w1 ⟨rfl, hb1⟩)
  refine bodyPost_ret (v := .tuple #[.string ⟨#[]⟩, .int .i64 E]) (by simp [results, Tryz.results60, go_sem]) rfl ?_
  exact ⟨by rw [hmt'.out], ((Below.refl _ _).alloc (Nat.le_refl _) _).trans (hb1.mono (by simp))⟩
end Go.Proofs.YthcgihgajdjfoaaGreatDoor
namespace Go.Proofs.YthcgihgajdjfoaaGreatDoor
open Go.RowKit
def escB (c : UInt8) : List UInt8 :=
 if c.toNat = 34 ∨ c.toNat = 92 then [92, c] else if c.toNat = 10 then [92, 110] else if c.toNat = 9 then [92, 116] else if c.toNat = 13 then [92, 114]
 else if c.toNat < 32 ∨ 126 < c.toNat then [92, 120, hexd (c.toNat / 16), hexd (c.toNat % 16)] else [c]
theorem escB_len (c : UInt8) : (escB c).length ≤ 4 ∧ 0 < (escB c).length := by
 unfold escB
 repeat' split
 all_goals simp
def escL (s : List UInt8) : List UInt8 := s.flatMap escB
def qtext (s : List UInt8) : List UInt8 := [34] ++ escL s ++ [34]
theorem escL_snoc (s : List UInt8) (k : Nat) (h : k < s.length) : escL (s.take (k + 1)) = escL (s.take k) ++ escB s[k] := by
 unfold escL
 rw [List.take_succ_eq_append_getElem h, List.flatMap_append]
 simp
theorem escL_len (s : List UInt8) : (escL s).length ≤ 4 * s.length := by
 unfold escL
 induction s with
 | nil => simp
 | cons c s ih => have := (escB_len c).1; simp only [List.flatMap_cons, List.length_append, List.length_cons]; omega
theorem qtext_len (s : List UInt8) : (qtext s).length ≤ 4 * s.length + 2 := by
 have := escL_len s
 simp [qtext]; omega
theorem enc_ascii (c : UInt8) (h : c.toNat < 128) : Utf8.encode (c.toNat : Int) = ⟨([c] : List UInt8).toArray⟩ := by
 unfold Utf8.encode
 have h1 : Utf8.valid (c.toNat : Int) = true := by simp [Utf8.valid]; left; omega
 simp only [h1, if_true, Int.toNat_natCast]
 rw [if_pos (by omega)]
 simp
theorem u8_eq (c : UInt8) (n : Nat) (hn : n < 256) (h : c.toNat = n) : c = UInt8.ofNat n := by
 subst h; simp
end Go.Proofs.YthcgihgajdjfoaaGreatDoor
namespace Go.Proofs.YthcgihgajdjfoaaGreatDoor
open Go.RowKit Go.Sort
abbrev Src2 := List UInt8 × List UInt8
def encT (x : Src2) : List Value := [.string ⟨x.1.toArray⟩, .string ⟨x.2.toArray⟩]
theorem encT_len (x : Src2) : (encT x).length = 2 := rfl
theorem encT_one1 (x : Src2) : ∀ v ∈ encT x, v.oneCell' = true := fun v hv => by
 simp [encT] at hv
 rcases hv with rfl | rfl <;> rfl
theorem encT_one (l : List Src2) : ∀ u ∈ l.flatMap encT, u.oneCell' = true := by
 intro u hu
 obtain ⟨m, _, h⟩ := List.mem_flatMap.1 hu
 exact encT_one1 m u h
def tcmp (a b : Src2) : Int := scmp a.1 b.1
theorem scmp_lt (a b : List UInt8) : scmp a b < 0 ↔ Op.bytesLess a b = true := by
 unfold scmp
 repeat' split
 all_goals simp_all
theorem slt_eq (a b : Src2) : ltOf tcmp a b = Op.bytesLess a.1 b.1 := by
 unfold ltOf tcmp
 rw [Bool.eq_iff_iff, decide_eq_true_iff, scmp_lt]
theorem tlt_swo : SWO (ltOf tcmp) where
 irrefl x := by rw [slt_eq]; exact bl_irrefl _
 trans x y z h1 h2 := by rw [slt_eq] at *; exact bl_trans _ _ _ h1 h2
 ntrans x y z h1 h2 := by
  rw [slt_eq] at *
  cases hyx : Op.bytesLess y.1 x.1
  ·rw [bl_total _ _ h1 hyx]; exact h2
  ·cases hxz : Op.bytesLess x.1 z.1
   ·rfl
   ·have := bl_trans _ _ _ hyx hxz
    rw [h2] at this; cases this
theorem nodup_inj {β : Type} {l : List β} (hn : l.Nodup) {i j : Nat} (hi : i < l.length) (hj : j < l.length) (he : l[i] = l[j]) : i = j := by
 rcases Nat.lt_trichotomy i j with h | h | h
 ·exact absurd he (List.pairwise_iff_getElem.1 hn i j hi hj h)
 ·exact h
 ·exact absurd he.symm (List.pairwise_iff_getElem.1 hn j i hj hi h)
def dupN (l : List Src2) : Bool := !decide ((l.map (·.1)).Nodup)
def tsort (l : List Src2) : List Src2 := l.mergeSort fun x y => !(ltOf tcmp) y x
theorem dupN_perm {l l' : List Src2} (h : l'.Perm l) : dupN l' = dupN l := by
 unfold dupN
 rw [decide_eq_decide.2 (h.map _).nodup_iff]
theorem dupN_adj {l : List Src2} (hs : l.Pairwise (leOf (ltOf tcmp))) (ha : ∀ i, ∀ h : i + 1 < l.length, l[i].1 ≠ l[i + 1].1) : dupN l = false := by
 unfold dupN
 simp only [Bool.not_eq_false', decide_eq_true_eq]
 induction l with
 | nil => simp
 | cons a l ih =>
   rw [List.pairwise_cons] at hs
   have ih' := ih hs.2 (fun i h => by have := ha (i + 1) (by simpa using h); simpa using this)
   rw [List.map_cons, List.nodup_cons]
   refine ⟨fun hm => ?_, ih'⟩
   cases l with
   | nil => simp at hm
   | cons b l =>
     have hab : a.1 ≠ b.1 := by simpa using ha 0 (by simp)
     have h1 : leOf (ltOf tcmp) a b := hs.1 b (by simp)
     have hlt : Op.bytesLess a.1 b.1 = true := by
      unfold leOf at h1
      rw [slt_eq] at h1
      cases hb : Op.bytesLess a.1 b.1
      ·exact absurd (bl_total _ _ hb h1) hab
      ·rfl
     obtain ⟨c, hc, hca⟩ := List.mem_map.1 hm
     rcases List.mem_cons.1 hc with rfl | hc'
     ·exact hab hca.symm
     ·have h2 : leOf (ltOf tcmp) b c := (List.pairwise_cons.1 hs.2).1 c hc'
      unfold leOf at h2
      rw [slt_eq, hca, hlt] at h2
      cases h2
theorem dupN_of_adj {l : List Src2} (i : Nat) (h : i + 1 < l.length) (he : l[i].1 = l[i + 1].1) : dupN l = true := by
 unfold dupN
 simp only [Bool.not_eq_true', decide_eq_false_iff_not]
 intro hn
 have := nodup_inj hn (i := i) (j := i + 1) (by simp; omega) (by simpa using h) (by simpa using he)
 omega
theorem dupN_prev {l : List Src2} (k : Nat) (h1 : 1 ≤ k) (h : k < l.length) (he : l[k - 1].1 = l[k].1) : dupN l = true := by
 obtain ⟨j, rfl⟩ : ∃ j, k = j + 1 := ⟨k - 1, by omega⟩
 exact dupN_of_adj j h (by simpa using he)
theorem adj_step {l : List Src2} (k : Nat) (h1 : 1 ≤ k) (h : k < l.length) (ha : ∀ j, j + 1 < k → ∀ h : j + 1 < l.length, l[j].1 ≠ l[j + 1].1) (he : l[k - 1].1 ≠ l[k].1) : ∀ j, j + 1 < k + 1 → ∀ h : j + 1 < l.length, l[j].1 ≠ l[j + 1].1 := by
 obtain ⟨i, rfl⟩ : ∃ i, k = i + 1 := ⟨k - 1, by omega⟩
 intro j hj hh
 rcases (show j + 1 < i + 1 ∨ j = i by omega) with h' | rfl
 ·exact ha j h' hh
 ·simpa using he
theorem tsort_of {l l' : List Src2} (hp : l'.Perm l) (hs : l'.Pairwise (leOf (ltOf tcmp))) (hd : dupN l = false) : l' = tsort l := by
 have hto : ∀ a b : Src2, ((!(ltOf tcmp) b a) || (!(ltOf tcmp) a b)) = true := fun a b => by
  cases hab : (ltOf tcmp) a b
  ·simp
  ·have := le_of_lt tlt_swo hab
   unfold leOf at this
   simp [this]
 have htr : ∀ a b c : Src2, (!(ltOf tcmp) b a) = true → (!(ltOf tcmp) c b) = true → (!(ltOf tcmp) c a) = true := fun a b c h1 h2 => by
  simp at *; exact tlt_swo.ntrans c b a h2 h1
 have h2 := List.pairwise_mergeSort htr hto l
 have hpm : l'.Perm (tsort l) := hp.trans (List.mergeSort_perm l _).symm
 have hnd : (l'.map (·.1)).Nodup := by
  rw [← dupN_perm hp] at hd
  simpa [dupN] using hd
 refine List.Perm.eq_of_pairwise (le := leOf (ltOf tcmp)) (fun a b ha hb h1 h2 => ?_) hs (h2.imp (fun h => by simpa [leOf] using h)) hpm
 unfold leOf at h1 h2
 rw [slt_eq] at h1 h2
 have he : a.1 = b.1 := bl_total _ _ h2 h1
 have hb' := hpm.symm.mem_iff.1 hb
 obtain ⟨i, hi, rfl⟩ := List.getElem_of_mem ha
 obtain ⟨j, hj, rfl⟩ := List.getElem_of_mem hb'
 by_cases hij : i = j
 ·subst hij; rfl
 ·exfalso
  exact hij (nodup_inj hnd (by simpa using hi) (by simpa using hj) (by simpa using he))
def srcLine (x : Src2) : List UInt8 := qtext x.1 ++ [32] ++ dtext (fnv fstart x.2) ++ [10]
abbrev Rel := Mod × List Mod × List Src2
def rerr (r : Rel) : Int := if mcheck r.1 r.2.1 ≠ 0 then mcheck r.1 r.2.1 else if dupN r.2.2 = true then 6 else 0
def rall (r : Rel) : List UInt8 := mtext r.1 r.2.1 ++ (tsort r.2.2).flatMap srcLine
def rtext (r : Rel) : List UInt8 := if rerr r = 0 then dtext (fnv fstart (rall r)) else []
def rline (r : Rel) : List UInt8 := r.1.1 ++ [32] ++ vtext r.1.2.1 r.1.2.2.1 r.1.2.2.2 ++ [32] ++ rtext r
end Go.Proofs.YthcgihgajdjfoaaGreatDoor
namespace Go.Proofs.YthcgihgajdjfoaaGreatDoor
open Go.RowKit Go.Sort
section
variable {α β : Type} {lt : α → α → Bool} {f : α → β}
theorem keyed_nodup (_hO : SWO lt) (hT : ∀ a b, lt a b = false → lt b a = false → f a = f b) (hC : ∀ a b c, f a = f b → lt a c = lt b c) {l : List α} (hs : l.Pairwise (leOf lt)) (ha : ∀ i, ∀ h : i + 1 < l.length, f l[i] ≠ f l[i + 1]) : (l.map f).Nodup := by
 induction l with
 | nil => simp
 | cons a l ih =>
   rw [List.pairwise_cons] at hs
   have ih' := ih hs.2 (fun i h => by have := ha (i + 1) (by simpa using h); simpa using this)
   rw [List.map_cons, List.nodup_cons]
   refine ⟨fun hm => ?_, ih'⟩
   cases l with
   | nil => simp at hm
   | cons b l =>
     have hab : f a ≠ f b := by simpa using ha 0 (by simp)
     have h1 : leOf lt a b := hs.1 b (by simp)
     have hlt : lt a b = true := by
      cases hb : lt a b
      ·exact absurd (hT a b hb h1) hab
      ·rfl
     obtain ⟨c, hc, hca⟩ := List.mem_map.1 hm
     rcases List.mem_cons.1 hc with rfl | hc'
     ·exact hab hca.symm
     ·have h2 : leOf lt b c := (List.pairwise_cons.1 hs.2).1 c hc'
      unfold leOf at h2
      rw [hC c a b hca, hlt] at h2
      cases h2
theorem keyed_dup {l : List α} (k : Nat) (h1 : 1 ≤ k) (h : k < l.length) (he : f l[k - 1] = f l[k]) : ¬ (l.map f).Nodup := by
 intro hn
 have := nodup_inj hn (i := k - 1) (j := k) (by simp; omega) (by simpa using h) (by simpa using he)
 omega
theorem keyed_step {l : List α} (k : Nat) (h1 : 1 ≤ k) (h : k < l.length) (ha : ∀ j, j + 1 < k → ∀ h : j + 1 < l.length, f l[j] ≠ f l[j + 1]) (he : f l[k - 1] ≠ f l[k]) : ∀ j, j + 1 < k + 1 → ∀ h : j + 1 < l.length, f l[j] ≠ f l[j + 1] := by
 obtain ⟨i, rfl⟩ : ∃ i, k = i + 1 := ⟨k - 1, by omega⟩
 intro j hj hh
 rcases (show j + 1 < i + 1 ∨ j = i by omega) with h' | rfl
 ·exact ha j h' hh
 ·simpa using he
theorem keyed_unique (hO : SWO lt) (hT : ∀ a b, lt a b = false → lt b a = false → f a = f b) {l l' : List α} (hp : l'.Perm l) (hs : l'.Pairwise (leOf lt)) (hn : (l.map f).Nodup) : l' = l.mergeSort fun x y => !lt y x := by
 have hto : ∀ a b : α, ((!lt b a) || (!lt a b)) = true := fun a b => by
  cases hab : lt a b
  ·simp
  ·have := le_of_lt hO hab
   unfold leOf at this
   simp [this]
 have htr : ∀ a b c : α, (!lt b a) = true → (!lt c b) = true → (!lt c a) = true := fun a b c h1 h2 => by
  simp at *; exact hO.ntrans c b a h2 h1
 have h2 := List.pairwise_mergeSort htr hto l
 have hpm : l'.Perm (l.mergeSort fun x y => !lt y x) := hp.trans (List.mergeSort_perm l _).symm
 have hnd : (l'.map f).Nodup := (hp.map f).nodup_iff.2 hn
 refine List.Perm.eq_of_pairwise (le := leOf lt) (fun a b ha hb h1 h2 => ?_) hs (h2.imp (fun h => by simpa [leOf] using h)) hpm
 unfold leOf at h1 h2
 have he : f a = f b := hT a b h2 h1
 have hb' := hpm.symm.mem_iff.1 hb
 obtain ⟨i, hi, rfl⟩ := List.getElem_of_mem ha
 obtain ⟨j, hj, rfl⟩ := List.getElem_of_mem hb'
 by_cases hij : i = j
 ·subst hij; rfl
 ·exfalso
  exact hij (nodup_inj hnd (by simpa using hi) (by simpa using hj) (by simpa using he))
end
abbrev Ent := Mod × List UInt8
def encE (x : Ent) : List Value := [.string ⟨x.1.1.toArray⟩, .int .i64 x.1.2.1, .int .i64 x.1.2.2.1, .int .i64 x.1.2.2.2, .string ⟨x.2.toArray⟩]
theorem encE_len (x : Ent) : (encE x).length = 5 := rfl
theorem encE_one1 (x : Ent) : ∀ v ∈ encE x, v.oneCell' = true := fun v hv => by
 simp [encE] at hv
 rcases hv with rfl | rfl | rfl | rfl | rfl <;> rfl
def ecmp (a b : Ent) : Int := mcmp a.1 b.1
theorem elt_eq (a b : Ent) : ltOf ecmp a b = ltOf mcmp a.1 b.1 := rfl
theorem elt_swo : SWO (ltOf ecmp) where
 irrefl x := mlt_swo.irrefl x.1
 trans x y z h1 h2 := mlt_swo.trans x.1 y.1 z.1 h1 h2
 ntrans x y z h1 h2 := mlt_swo.ntrans x.1 y.1 z.1 h1 h2
theorem elt_key (a b : Ent) (h1 : ltOf ecmp a b = false) (h2 : ltOf ecmp b a = false) : a.1 = b.1 := mlt_total a.1 b.1 h1 h2
theorem elt_cong (a b c : Ent) (h : a.1 = b.1) : ltOf ecmp a c = ltOf ecmp b c := by rw [elt_eq, elt_eq, h]
def entOf (r : Rel) : Ent := (r.1, rline r)
def ferr : List Rel → Int
 | [] => 0
 | r :: l => if rerr r = 0 then ferr l else rerr r
theorem ferr_at : ∀ (L : List Rel) (k : Nat) (h : k < L.length), (∀ j, ∀ hj : j < k, rerr L[j] = 0) → rerr L[k] ≠ 0 → ferr L = rerr L[k]
 | r :: l, 0, h, _, he => by
   have he' : rerr r ≠ 0 := he
   simp [ferr, he']
 | r :: l, k + 1, h, hz, he => by
   have h0 : rerr r = 0 := hz 0 (by omega)
   have ih := ferr_at l k (by simpa using h) (fun j hj => hz (j + 1) (by omega)) (by simpa using he)
   simp [ferr, h0, ih]
theorem ferr_none : ∀ (L : List Rel), (∀ j, ∀ hj : j < L.length, rerr L[j] = 0) → ferr L = 0
 | [], _ => rfl
 | r :: l, hz => by
   have h0 : rerr r = 0 := hz 0 (by simp)
   have ih := ferr_none l (fun j hj => hz (j + 1) (by simpa using hj))
   simp [ferr, h0, ih]
def esort (l : List Ent) : List Ent := l.mergeSort fun x y => !(ltOf ecmp) y x
def lerr (L : List Rel) : Int := if ferr L ≠ 0 then ferr L else if (L.map (·.1)).Nodup then 0 else 6
def lout (L : List Rel) : List (List UInt8) := if lerr L = 0 then (esort (L.map entOf)).map (·.2) else []
theorem ents_keys (L : List Rel) : (L.map entOf).map (·.1) = L.map (·.1) := by simp [entOf]
end Go.Proofs.YthcgihgajdjfoaaGreatDoor
namespace Go.Proofs.YthcgihgajdjfoaaGreatDoor
open Go.RowKit Go.Sort
abbrev Regy := List (Mod × List Mod)
def firstBad : Regy → Int
 | [] => 0
 | x :: r => if mcheck x.1 x.2 = 0 then firstBad r else mcheck x.1 x.2
theorem firstBad_hit : ∀ (R : Regy) (k : Nat) (hk : k < R.length), firstBad (R.take k) = 0 → mcheck R[k].1 R[k].2 ≠ 0 → firstBad R = mcheck R[k].1 R[k].2
 | [], k, hk, _, _ => by simp at hk
 | x :: r, 0, _, _, h => by
   unfold firstBad
   exact if_neg h
 | x :: r, k + 1, hk, h0, h => by
   rw [List.take_succ_cons] at h0
   unfold firstBad at h0 ⊢
   split at h0
   ·rename_i hx
    rw [if_pos hx]
    exact firstBad_hit r k (by simpa using hk) h0 h
   ·rename_i hx
    exact absurd h0 hx
theorem firstBad_step (R : Regy) (k : Nat) (hk : k < R.length) (h0 : firstBad (R.take k) = 0) (h : mcheck R[k].1 R[k].2 = 0) : firstBad (R.take (k + 1)) = 0 := by
 rw [List.take_succ_eq_append_getElem hk]
 generalize R[k] = x at h
 generalize R.take k = L at h0
 clear hk
 induction L with
 | nil => simp [firstBad, h]
 | cons y L ih =>
   rw [List.cons_append]
   unfold firstBad at h0 ⊢
   split at h0
   ·rename_i hy
    rw [if_pos hy]
    exact ih h0
   ·rename_i hy
    exact absurd h0 hy
def dupR (R : Regy) : Bool := !decide ((R.map (·.1)).Nodup)
theorem dupR_step (R : Regy) (k : Nat) (hk : k < R.length) : dupR (R.take (k + 1)) = (dupR (R.take k) || decide (R[k].1 ∈ (R.take k).map (·.1))) := by
 rw [List.take_succ_eq_append_getElem hk]
 generalize R[k] = x
 generalize R.take k = L
 unfold dupR
 rw [List.map_append, Bool.eq_iff_iff]
 simp only [Bool.not_eq_true', decide_eq_false_iff_not, Bool.or_eq_true, decide_eq_true_eq, List.map_cons, List.map_nil]
 rw [List.nodup_append]
 constructor
 ·intro h
  by_cases h1 : (L.map (·.1)).Nodup
  ·right
   refine Classical.byContradiction fun h2 => h ⟨h1, by simp, fun a ha b hb => ?_⟩
   obtain rfl : b = x.1 := by simpa using hb
   exact fun e => h2 (e ▸ ha)
  ·exact .inl h1
 ·rintro (h | h) ⟨h1, _, h3⟩
  ·exact h h1
  ·exact h3 _ h _ (by simp) rfl
def checkR (R : Regy) : Int := if firstBad R = 0 then (if dupR R = true then 6 else 0) else firstBad R
theorem checkR_ok {R : Regy} (h : checkR R = 0) : firstBad R = 0 ∧ (R.map (·.1)).Nodup := by
 unfold checkR at h
 split at h
 ·rename_i h0
  split at h
  ·omega
  ·rename_i hd
   exact ⟨h0, by simpa [dupR] using hd⟩
 ·rename_i h0
  exact absurd h h0
end Go.Proofs.YthcgihgajdjfoaaGreatDoor
namespace Go.Proofs.YthcgihgajdjfoaaGreatDoor
open Go.RowKit Go.Sort
theorem nodup_len {α : Type} [DecidableEq α] : ∀ (S U : List α), S.Nodup → (∀ x ∈ S, x ∈ U) → S.length ≤ U.length
 | [], _, _, _ => Nat.zero_le _
 | x :: S, U, hn, hs => by
   obtain ⟨h1, h2⟩ := List.nodup_cons.1 hn
   have hx := hs x (by simp)
   have ih := nodup_len S (U.erase x) h2 fun y hy => (List.mem_erase_of_ne (fun (e : y = x) => h1 (by rw [← e]; exact hy))).2 (hs y (by simp [hy]))
   rw [List.length_erase_of_mem hx] at ih
   have := List.length_pos_of_mem hx
   simp only [List.length_cons]
   omega
def reqOf (R : Regy) (m : Mod) : List Mod := ((R.find? fun x => decide (x.1 = m)).map (·.2)).getD []
def hasR (R : Regy) (m : Mod) : Bool := R.any fun x => decide (x.1 = m)
theorem reqOf_mem {R : Regy} {x m : Mod} (h : m ∈ reqOf R x) : m ∈ R.flatMap (·.2) := by
 unfold reqOf at h
 cases hf : R.find? fun y => decide (y.1 = x) with
 | none => rw [hf] at h; simp at h
 | some y =>
   rw [hf] at h
   exact List.mem_flatMap.2 ⟨y, List.mem_of_find?_eq_some hf, h⟩
inductive Reach (R : Regy) (l : List Mod) : Mod → Prop
 | base {m : Mod} : m ∈ l → Reach R l m
 | step {x m : Mod} : Reach R l x → m ∈ reqOf R x → Reach R l m
def univ (R : Regy) (l : List Mod) : List Mod := l ++ R.flatMap (·.2)
theorem Reach.univ {R : Regy} {l : List Mod} {m : Mod} (h : Reach R l m) : m ∈ univ R l := by
 cases h with
 | base h => exact List.mem_append_left _ h
 | step _ h => exact List.mem_append_right _ (reqOf_mem h)
theorem univ_len (R : Regy) (l : List Mod) (hR : R.length ≤ 100) (hq : ∀ x ∈ R, x.2.length ≤ 100) : (univ R l).length ≤ l.length + 10000 := by
 have h : ∀ L : Regy, (∀ x ∈ L, x.2.length ≤ 100) → (L.flatMap (·.2)).length ≤ 100 * L.length := fun L hL => by
  induction L with
  | nil => simp
  | cons x L ih =>
    have h1 := hL x (by simp)
    have h2 := ih fun y hy => hL y (by simp [hy])
    simp only [List.flatMap_cons, List.length_append, List.length_cons]
    omega
 have := h R hq
 unfold univ
 rw [List.length_append]
 omega
structure Needs (R : Regy) (l S T : List Mod) : Prop where
 nodup : S.Nodup
 done : ∀ m ∈ S, Reach R l m
 todo : ∀ m ∈ T, Reach R l m
 base : ∀ m ∈ l, m ∈ S ∨ m ∈ T
 clos : ∀ x ∈ S, ∀ m ∈ reqOf R x, m ∈ S ∨ m ∈ T
theorem Needs.start (R : Regy) (l : List Mod) : Needs R l [] l := ⟨List.nodup_nil, by simp, fun m h => .base h, fun m h => .inr h, by simp⟩
theorem Needs.old {R : Regy} {l S T : List Mod} {m : Mod} (h : Needs R l S (T ++ [m])) (hm : m ∈ S) : Needs R l S T :=
 ⟨h.nodup, h.done, fun x hx => h.todo x (by simp [hx]), fun x hx => by
  rcases h.base x hx with h1 | h1
  ·exact .inl h1
  ·rcases List.mem_append.1 h1 with h2 | h2
   ·exact .inr h2
   ·obtain rfl : x = m := by simpa using h2
    exact .inl hm, fun y hy x hx => by
  rcases h.clos y hy x hx with h1 | h1
  ·exact .inl h1
  ·rcases List.mem_append.1 h1 with h2 | h2
   ·exact .inr h2
   ·obtain rfl : x = m := by simpa using h2
    exact .inl hm⟩
theorem Needs.new {R : Regy} {l S T : List Mod} {m : Mod} (h : Needs R l S (T ++ [m])) (hm : m ∉ S) : Needs R l (S ++ [m]) (T ++ reqOf R m) := by
 have hr := h.todo m (by simp)
 have old : ∀ x, x ∈ S ∨ x ∈ T ++ [m] → x ∈ S ++ [m] ∨ x ∈ T ++ reqOf R m := fun x hx => by
  rcases hx with h1 | h1
  ·exact .inl (by simp [h1])
  ·rcases List.mem_append.1 h1 with h2 | h2
   ·exact .inr (by simp [h2])
   ·exact .inl (by simp [h2])
 refine ⟨?_, ?_, ?_, fun x hx => old x (h.base x hx), ?_⟩
 ·rw [List.nodup_append]
  exact ⟨h.nodup, by simp, fun a ha b hb e => hm (by simp at hb; rw [← hb, ← e]; exact ha)⟩
 ·intro x hx
  rcases List.mem_append.1 hx with h1 | h1
  ·exact h.done x h1
  ·obtain rfl : x = m := by simpa using h1
   exact hr
 ·intro x hx
  rcases List.mem_append.1 hx with h1 | h1
  ·exact h.todo x (by simp [h1])
  ·exact .step hr h1
 ·intro y hy x hx
  rcases List.mem_append.1 hy with h1 | h1
  ·exact old x (h.clos y h1 x hx)
  ·obtain rfl : y = m := by simpa using h1
   exact .inr (by simp [hx])
theorem Needs.len {R : Regy} {l S T : List Mod} (h : Needs R l S T) : S.length ≤ (univ R l).length := nodup_len S _ h.nodup fun x hx => (h.done x hx).univ
theorem Needs.fin {R : Regy} {l S : List Mod} (h : Needs R l S []) (m : Mod) : m ∈ S ↔ Reach R l m := by
 refine ⟨h.done m, fun hr => ?_⟩
 induction hr with
 | base hm => rcases h.base _ hm with h1 | h1
              ·exact h1
              ·simp at h1
 | step _ hm ih => rcases h.clos _ ih _ hm with h1 | h1
                   ·exact h1
                   ·simp at h1
end Go.Proofs.YthcgihgajdjfoaaGreatDoor
namespace Go.Proofs.YthcgihgajdjfoaaGreatDoor
open Go.RowKit Go.Sort
theorem vcmp_anti (x y z x' y' z' : Int) : vcmp x y z x' y' z' = - vcmp x' y' z' x y z := by
 unfold vcmp
 repeat' split
 all_goals omega
theorem mcmp_anti (m n : Mod) : mcmp m n = - mcmp n m := by
 unfold mcmp
 by_cases h1 : Op.bytesLess m.1 n.1 = true
 ·rw [if_pos h1, if_neg (by rw [bl_asymm _ _ h1]; simp), if_neg (fun e => by rw [e, bl_irrefl] at h1; cases h1)]
 ·by_cases h2 : m.1 = n.1
  ·rw [if_neg h1, if_pos h2, if_neg (by rw [h2, bl_irrefl]; simp), if_pos h2.symm]
   exact vcmp_anti _ _ _ _ _ _
  ·have h3 : Op.bytesLess n.1 m.1 = true := by
    cases hb : Op.bytesLess n.1 m.1
    ·exact absurd (bl_total _ _ (Bool.eq_false_iff.2 h1) hb) h2
    ·rfl
   rw [if_neg h1, if_neg h2, if_pos h3]
   rfl
theorem ltM_false {m n : Mod} (h : 0 ≤ mcmp m n) : ltOf mcmp m n = false := by
 unfold ltOf
 exact decide_eq_false (by omega)
theorem mcmp_law (a b c : Mod) (hx : mcmp a b ≤ 0) (hy : mcmp b c ≤ 0) : mcmp a c ≤ 0 ∧ (mcmp a c = 0 → mcmp a b = 0 ∧ mcmp b c = 0) := by
 have h1 := mcmp_anti a b
 have h2 := mcmp_anti b c
 have h3 := mcmp_anti a c
 have k1 : ltOf mcmp b a = false := ltM_false (by omega)
 have k2 : ltOf mcmp c b = false := ltM_false (by omega)
 have k3 := mlt_swo.ntrans c b a k2 k1
 have k4 : 0 ≤ mcmp c a := by
  unfold ltOf at k3
  have := of_decide_eq_false k3
  omega
 refine ⟨by omega, fun h => ?_⟩
 obtain rfl := (mcmp_eq a c).1 h
 omega
end Go.Proofs.YthcgihgajdjfoaaGreatDoor
