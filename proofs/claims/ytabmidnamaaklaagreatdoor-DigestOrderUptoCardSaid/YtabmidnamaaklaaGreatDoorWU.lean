/- Walks: the digest of a release (digest.Release). -/
import Derived.Test.YtabmidnamaaklaaGreatDoorWT
import Derived.Test.YtabmidnamaaklaaGreatDoorWS
namespace Go.Proofs.YtabmidnamaaklaaGreatDoor
open Go.RowKit Go.Sort

def srcLines (l : List Src2) : List UInt8 := l.flatMap srcLine
theorem srcLines_take (l : List Src2) (k : Nat) (h : k < l.length) : srcLines (l.take (k + 1)) = srcLines (l.take k) ++ srcLine l[k] := by
  unfold srcLines
  rw [List.take_succ_eq_append_getElem h, List.flatMap_append]
  simp
theorem fnvs4 (m : Nat) (a b c d : List UInt8) : fnvs m [a, b, c, d] = fnv m (a ++ b ++ c ++ d) := by
  simp [fnvs, fnv_append]
/-- a release as an argument -/
def relV (m : Mod) (A : Option Addr) (n c : Nat) (A' : Option Addr) (n' c' : Nat) : Value := .agg #[.string ⟨m.1.toArray⟩, .int .i64 m.2.1, .int .i64 m.2.2.1, .int .i64 m.2.2.2, .slice A n c, .slice A' n' c']
theorem sl4 (w : World) (a b c d : List UInt8) (t : TypeId) : Sl (w.alloc (.cells #[.string ⟨a.toArray⟩, .string ⟨b.toArray⟩, .string ⟨c.toArray⟩, .string ⟨d.toArray⟩] t)) (w.alloc (.cells #[.string ⟨a.toArray⟩, .string ⟨b.toArray⟩, .string ⟨c.toArray⟩, .string ⟨d.toArray⟩] t)).heap.size 1 encS (some ⟨w.heap.size, 0, none⟩) [a, b, c, d] := by
  refine .inr ⟨w.heap.size, 0, rfl, by simp, fun i hi j v hv => ?_⟩
  match j, hv with
  | 0, hv =>
    simp [encS] at hv
    subst hv
    match i, hi with
    | 0, _ | 1, _ | 2, _ | 3, _ => simp
theorem field_rel (m : Mod) (A : Option Addr) (n c : Nat) (A' : Option Addr) (n' c' : Nat) : ∀ w, (Instr.field 40 (.agg #[.string ⟨m.1.toArray⟩, .int .i64 m.2.1, .int .i64 m.2.2.1, .int .i64 m.2.2.2, .slice A n c, .slice A' n' c']) 0).run Tryz.prog w = .ok (.agg #[.string ⟨m.1.toArray⟩, .int .i64 m.2.1, .int .i64 m.2.2.1, .int .i64 m.2.2.2, .slice A n c]) w := fun _ => by kernel_rfl

theorem sum4_any (q : Nat) (a b c d : List UInt8) (W : World) (hq : q < 18446744073709551616) (h : ∀ s ∈ [a, b, c, d], s.length ≤ maxLen) :
    Calls Tryz.prog 26 #[.int .u64 q, .slice (some ⟨W.heap.size, 0, none⟩) 4 4] (W.alloc (.cells #[.string ⟨a.toArray⟩, .string ⟨b.toArray⟩, .string ⟨c.toArray⟩, .string ⟨d.toArray⟩] 9)) fun e w' => e = .returned (.int .u64 (fnv q (a ++ b ++ c ++ d))) ∧ (W.alloc (.cells #[.string ⟨a.toArray⟩, .string ⟨b.toArray⟩, .string ⟨c.toArray⟩, .string ⟨d.toArray⟩] 9)) = w' := by
  have hh := sum_any q (some ⟨W.heap.size, 0, none⟩) 4 [a, b, c, d] _ (by simp [maxLen]) hq (sl4 W a b c d 9) h
  rw [fnvs4] at hh
  exact hh
theorem mtext_len (m : Mod) (l : List Mod) : (mtext m l).length ≤ 6500 := by
  unfold mtext
  split
  · rename_i h
    obtain ⟨h1, h2⟩ := mcheck_ok m l h
    have h3 := lineM_len wMod m (by decide) (h2 m (by simp))
    have h4 := linesM_len (msort l) (fun x hx => h2 x (by simp; exact .inr ((List.mergeSort_perm l _).mem_iff.1 hx)))
    rw [msort_len] at h4
    simp; omega
  · simp
theorem tsort_mem {l : List Src2} {x : Src2} (h : x ∈ tsort l) : x ∈ l := (List.mergeSort_perm l _).mem_iff.1 h
theorem tsort_len (l : List Src2) : (tsort l).length = l.length := List.length_mergeSort l
theorem dtext_len (n : Nat) : (dtext n).length = 18 := by simp [dtext, hexs_length]
set_option maxRecDepth 100000 in
set_option maxHeartbeats 4000000 in
theorem Release_any (m : Mod) (A : Option Addr) (c : Nat) (l : List Mod) (A' : Option Addr) (c' : Nat) (s : List Src2) (w : World) (hA : Sl w w.heap.size 4 encM A l) (hS : Sl w w.heap.size 2 encT A' s) (hl : l.length ≤ 1099511627776) (hsl : s.length ≤ 1099511627776)
    (hm : ∀ x ∈ m :: l, x.1.length ≤ maxLen) (hs : ∀ x ∈ s, x.1.length ≤ 1099511627776 ∧ x.2.length ≤ maxLen) (hG : Glob w) :
    Calls Tryz.prog 19 #[.agg #[.string ⟨m.1.toArray⟩, .int .i64 m.2.1, .int .i64 m.2.2.1, .int .i64 m.2.2.2, .slice A l.length c, .slice A' s.length c']] w fun e w' => e = .returned (.tuple #[.string ⟨(rtext (m, l, s)).toArray⟩, .int .i64 (rerr (m, l, s))]) ∧ Below w.heap.size w w' := by
  have hB0 : Below w.heap.size w (w.alloc (.cells #[.string ⟨m.1.toArray⟩, .int .i64 m.2.1, .int .i64 m.2.2.1, .int .i64 m.2.2.2, .slice A l.length c, .slice A' s.length c'] 40)) := (Below.refl _ _).alloc (Nat.le_refl _) _
  have cT := Lib.hid (mText_any m A c l (w.alloc (.cells #[.string ⟨m.1.toArray⟩, .int .i64 m.2.1, .int .i64 m.2.2.1, .int .i64 m.2.2.2, .slice A l.length c, .slice A' s.length c'] 40)) ((hA.below hB0).more (by simp)) hl hm (hG.alloc _))
  have cS := Lib.hid (fun (W : World) (hW : Below w.heap.size w W) => sources_any A' c' s W ((hS.below hW).more hW.size) hsl)
  have HG := Lib.hid hG
  have hre := Lib.hid (show rerr (m, l, s) = if mcheck m l ≠ 0 then mcheck m l else if dupN s = true then 6 else 0 from rfl)
  have hrt := Lib.hid (show rtext (m, l, s) = if rerr (m, l, s) = 0 then dtext (fnv fstart (mtext m l ++ srcLines (tsort s))) else [] from rfl)
  clear hA hS hG
  generalize rtext (m, l, s) = RT at hrt ⊢
  generalize rerr (m, l, s) = RE at hrt hre ⊢
  generalize mcheck m l = E at cT hre
  by_cases hE : E = 0
  · have hre' := Lib.hid (show RE = if dupN s = true then 6 else 0 by rw [hre.out, hE]; rfl)
    clear hre
    subst hE
    go_enter Tryz.func19, Tryz.ntmps19
    go_wp2_with (first
      | (go_at_call 29; refine cT.out.mono ?_; rintro e w1 ⟨rfl, hb1⟩;
         have q0 := (Blk.new w 40 #[.string ⟨m.1.toArray⟩, .int .i64 m.2.1, .int .i64 m.2.2.1, .int .i64 m.2.2.2, .slice A l.length c, .slice A' s.length c']).keep hb1;
         have hB1 := Lib.hid (hB0.trans (hb1.mono (by simp))); clear hb1 hB0;
         have k5 := q0.cell 5; simp at k5; clear q0))
    refine (cS.out _ hB1.out).mono ?_
    rintro e w2 ⟨hb2, hcase⟩
    have hB2 := Lib.hid (hB1.out.trans (hb2.mono hB1.out.size))
    clear hb2 hB1
    rcases hcase with ⟨hd, rfl⟩ | ⟨hd, A2, c2, rfl, hS2⟩
    · have hRE := Lib.hid (show RE = 6 by rw [hre'.out, if_pos hd])
      have hRT := Lib.hid (show RT = [] by rw [hrt.out, if_neg (by rw [hRE.out]; decide)])
      clear hrt hre' hd cS
      go_wp2
      refine bodyPost_ret (v := .tuple #[.string ⟨#[]⟩, .int .i64 6]) (by simp [results, Tryz.results19, go_sem]) rfl ?_
      exact ⟨by rw [hRT.out, hRE.out], hB2.out⟩
    · have hRE := Lib.hid (show RE = 0 by rw [hre'.out, if_neg (by rw [hd]; decide)])
      have hRT := Lib.hid (show RT = dtext (fnv fstart (mtext m l ++ srcLines (tsort s))) by rw [hrt.out, if_pos hRE.out])
      have hL : (tsort s).length = s.length := tsort_len s
      have hsm := Lib.hid (fun x (hx : x ∈ tsort s) => hs x (tsort_mem hx))
      clear hrt hre' hd cS hs
      generalize tsort s = L at hS2 hL hsm hRT
      have hml := mtext_len m l
      generalize mtext m l = mt at hml hRT ⊢
      have cSum := Lib.hid (fun W => Sum_any mt W (by unfold maxLen; omega))
      go_wp2_with (go_at_call 12; refine (cSum.out _).mono ?_; rintro e w3 ⟨rfl, hb3⟩)
      have hB3 := Lib.hid (hB2.out.trans (hb3.mono hB2.out.size))
      have hS3 := (hS2.below hb3).more hb3.size
      clear hb3 hB2 hS2 cSum
      have hf := Lib.hid (show fnv fstart mt = fnv fstart (mt ++ srcLines (L.take 0)) by simp [srcLines])
      have hflt := fnv_lt fstart mt (by decide)
      generalize fnv fstart mt = m0 at hf hflt ⊢
      go_wp2
      clear cT hm
      go_loopw [8, 32] (fun v i wr => ∃ k q : Nat, k ≤ L.length ∧ i = .int .i64 (k : Nat) ∧ v = .int .u64 (q : Nat) ∧ q < 18446744073709551616 ∧ Hid (q = fnv fstart (mt ++ srcLines (L.take k))) ∧ Below w3.heap.size w3 wr) (fun _ i _ => L.length - (intOf i).toNat)
      case atStart => exact ⟨0, m0, Nat.zero_le _, rfl, rfl, hflt, hf, Below.refl _ _⟩
      case round =>
        obtain ⟨k, q, hk, rfl, rfl, hq, HF, hb⟩ := hrel
        have hbz := hb.size
        by_cases hlt : k < L.length
        · have hlt' : (k : Int) < (s.length : Int) := by omega
          obtain ⟨b, off, rfl, hbB, g0, g1⟩ := (hS3.below hb).src2 hlt
          have HN := Lib.hid (srcLines_take L k hlt)
          obtain ⟨hx1, hx2⟩ := hsm.out L[k] (List.getElem_mem hlt)
          generalize L[k] = x at g0 g1 HN hx1 hx2
          obtain ⟨nm, tx⟩ := x
          simp only at g0 g1 hx1 hx2
          have cq := Lib.hid (fun W => Quote_any nm hx1 W)
          have cs := Lib.hid (fun W => Sum_any tx W hx2)
          have hft := fnv_lt fstart tx (by decide)
          have ct := Lib.hid (fun W => Text_any (fnv fstart tx) W hft)
          have hql := qtext_len nm
          have htl : (dtext (fnv fstart tx)).length ≤ 18 := Nat.le_of_eq (dtext_len _)
          have hln := Lib.hid (show srcLine (nm, tx) = qtext nm ++ [32] ++ dtext (fnv fstart tx) ++ [10] from rfl)
          generalize dtext (fnv fstart tx) = td at ct htl hln
          generalize fnv fstart tx = ft at cs ct hft
          generalize qtext nm = qn at cq hql hln
          have c4 := Lib.hid (fun W => sum4_any q qn [32] td [10] W hq (by
            intro z hz
            simp at hz
            unfold maxLen
            rcases hz with rfl | rfl | rfl | rfl <;> (try simp) <;> omega))
          go_wp2
          go_region_held3 (fun W => W.cell? ⟨wr.heap.size, 0, none⟩ = some (.string ⟨nm.toArray⟩) ∧ W.cell? ⟨wr.heap.size, 1, none⟩ = some (.string ⟨tx.toArray⟩)) (first | (simp; done) | (go_split_ands; (repeat' apply And.intro) <;> (first | assumption | (apply cell_keep; assumption; assumption) | (apply cell_keep_alloc; assumption))))
            (first | (go_at_call 31; refine (cq.out _).mono ?_; rintro e w4 ⟨rfl, hb4⟩) | (go_at_call 12; refine (cs.out _).mono ?_; rintro e w5 ⟨rfl, hb5⟩) | (go_at_call 14; refine (ct.out _).mono ?_; rintro e w6 ⟨rfl, hb6⟩) | (go_at_call 26; refine (c4.out _).mono ?_; rintro e w7 ⟨rfl, rfl⟩))
          have z4 := hb4.size
          have z5 := hb5.size
          have z6 := hb6.size
          simp at z4 z5 z6
          have hB7 := Lib.hid (((((hb.alloc hbz (.cells #[.string ⟨nm.toArray⟩, .string ⟨tx.toArray⟩] 56)).drew.trans (hb4.mono (by simp; omega))).trans (hb5.mono (by omega))).trans (hb6.mono (by omega))).alloc (by omega) (.cells #[.string ⟨qn.toArray⟩, .string ⟨#[32]⟩, .string ⟨td.toArray⟩, .string ⟨#[10]⟩] 9))
          have hqq := Lib.hid (show fnv q (qn ++ 32 :: (td ++ [10])) = fnv fstart (mt ++ srcLines (L.take (k + 1))) by rw [show qn ++ 32 :: (td ++ [10]) = qn ++ [32] ++ td ++ [10] by simp, HN.out, hln.out, ← List.append_assoc, fnv_append fstart (mt ++ srcLines (L.take k)), ← HF.out])
          have hqlt := fnv_lt q (qn ++ 32 :: (td ++ [10])) hq
          clear hb4 hb5 hb6
          generalize fnv q (qn ++ 32 :: (td ++ [10])) = q' at hqq hqlt ⊢
          go_wp2
          go_roundw
          case rel => exact ⟨k + 1, q', by omega, by go_num, rfl, hqlt, hqq, hB7.out⟩
          case measure => simp [intOf]; omega
        · have hlt' : ¬ (k : Int) < (s.length : Int) := by omega
          have ct := Lib.hid (fun W => Text_any q W hq)
          have hfin := Lib.hid (show RT = dtext q by rw [hRT.out, HF.out, List.take_of_length_le (by omega)])
          generalize dtext q = td at ct hfin
          go_wp2_with (go_at_call 14; refine (ct.out _).mono ?_; rintro e w6 ⟨rfl, hb6⟩)
          refine bodyPost_ret (v := .tuple #[.string ⟨td.toArray⟩, .int .i64 0]) (by simp [results, Tryz.results19, go_sem]) rfl ?_
          exact ⟨by rw [hfin.out, hRE.out], hB3.out.trans ((hb.trans (hb6.mono hbz)).mono hB3.out.size)⟩
  · have hE' : (E != 0) = true := by simpa using hE
    have hRE := Lib.hid (show RE = E by rw [hre.out, if_pos hE])
    have hRT := Lib.hid (show RT = [] by rw [hrt.out, if_neg (by rw [hRE.out]; exact hE)])
    clear hrt hre hE
    go_enter Tryz.func19, Tryz.ntmps19
    go_wp2_with (go_at_call 29; refine cT.out.mono ?_; rintro e w1 ⟨rfl, hb1⟩)
    refine bodyPost_ret (v := .tuple #[.string ⟨#[]⟩, .int .i64 E]) (by simp [results, Tryz.results19, go_sem]) rfl ?_
    exact ⟨by rw [hRT.out, hRE.out], hB0.trans (hb1.mono (by simp))⟩
end Go.Proofs.YtabmidnamaaklaaGreatDoor
