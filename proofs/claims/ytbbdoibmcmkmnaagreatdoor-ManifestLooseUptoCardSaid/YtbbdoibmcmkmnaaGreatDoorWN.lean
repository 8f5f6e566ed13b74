/- Walks: the text of a manifest. -/
import Derived.Test.YtbbdoibmcmkmnaaGreatDoorWM
namespace Go.Proofs.YtbbdoibmcmkmnaaGreatDoor
open Go.RowKit Go.Sort

def wMod : List UInt8 := [109, 111, 100, 117, 108, 101]
def wReq : List UInt8 := [114, 101, 113, 117, 105, 114, 101]
def lineM (s : List UInt8) (m : Mod) : List UInt8 := lineT s m.1 m.2.1 m.2.2.1 m.2.2.2
def linesM (l : List Mod) : List UInt8 := l.flatMap (lineM wReq)
/-- the text of a manifest -/
def mtext (m : Mod) (l : List Mod) : List UInt8 := if mcheck m l = 0 then lineM wMod m ++ linesM (msort l) else []
theorem pathOk_len (p : List UInt8) (h : pathOk p = true) : p.length ≤ 60 := by
  simp [pathOk] at h; exact h.1
theorem mcheck_ok (m : Mod) (l : List Mod) (h : mcheck m l = 0) : l.length ≤ 64 ∧ ∀ x ∈ m :: l, x.1.length ≤ 60 := by
  unfold mcheck at h
  split at h
  · omega
  · rename_i h1
    split at h
    · omega
    · split at h
      · omega
      · split at h
        · omega
        · refine ⟨by omega, fun x hx => pathOk_len _ ?_⟩
          have : ¬ badPath x = true := fun hb => h1 (List.any_eq_true.2 ⟨x, hx, hb⟩)
          simpa [badPath] using this
theorem lineM_len (s : List UInt8) (m : Mod) (hs : s.length ≤ 10) (hm : m.1.length ≤ 60) : (lineM s m).length ≤ 100 := by
  have := vtext_len m.2.1 m.2.2.1 m.2.2.2
  simp [lineM, lineT]; omega
theorem linesM_take (l : List Mod) (k : Nat) (h : k < l.length) : linesM (l.take (k + 1)) = linesM (l.take k) ++ lineM wReq l[k] := by
  unfold linesM
  rw [List.take_succ_eq_append_getElem h, List.flatMap_append]
  simp
theorem linesM_len (l : List Mod) (hp : ∀ x ∈ l, x.1.length ≤ 60) : (linesM l).length ≤ 100 * l.length := by
  induction l with
  | nil => simp [linesM]
  | cons x l ih =>
    have h1 := lineM_len wReq x (by decide) (hp x (by simp))
    have h2 := ih (fun y hy => hp y (by simp [hy]))
    unfold linesM at *
    simp only [List.flatMap_cons, List.length_append, List.length_cons]
    omega

theorem field_man (m : Mod) (A : Option Addr) (n c : Nat) : ∀ w, (Instr.field 28 (.agg #[.string ⟨m.1.toArray⟩, .int .i64 m.2.1, .int .i64 m.2.2.1, .int .i64 m.2.2.2, .slice A n c]) 1).run Tryz.prog w = .ok (.slice A n c) w := fun _ => by kernel_rfl
set_option maxRecDepth 100000 in
set_option maxHeartbeats 4000000 in
theorem mText_any (m : Mod) (A : Option Addr) (c : Nat) (l : List Mod) (w : World) (hA : Sl w w.heap.size 4 encM A l) (hl : l.length ≤ 1099511627776) (hs : ∀ x ∈ m :: l, x.1.length ≤ maxLen) (hG : Glob w) :
    Calls Tryz.prog 18 #[.agg #[.string ⟨m.1.toArray⟩, .int .i64 m.2.1, .int .i64 m.2.2.1, .int .i64 m.2.2.2, .slice A l.length c]] w fun e w' => e = .returned (.tuple #[.string ⟨(mtext m l).toArray⟩, .int .i64 (mcheck m l)]) ∧ Below w.heap.size w w' := by
  have cc := Lib.hid (Check_any m A c l (w.alloc (.cells #[.string ⟨m.1.toArray⟩, .int .i64 m.2.1, .int .i64 m.2.2.1, .int .i64 m.2.2.2, .slice A l.length c] 28)) ((hA.below ((Below.refl _ _).alloc (Nat.le_refl _) _)).more (by simp)) hl hs (hG.alloc _))
  have HA := Lib.hid hA
  have HG := Lib.hid hG
  have hok := Lib.hid (mcheck_ok m l)
  have hmt := Lib.hid (mtext.eq_1 m l)
  have cl1 := Lib.hid (fun (W : World) (h : m.1.length ≤ 60) (hW : Glob W) => line_any wMod m.1 m.2.1 m.2.2.1 m.2.2.2 W (by decide) (by omega) hW)
  clear hA hG
  generalize mcheck m l = E at cc hok hmt ⊢
  by_cases hE : E = 0
  · subst hE
    obtain ⟨hl64, hp⟩ := hok.out rfl
    have hmt' := Lib.hid (show mtext m l = lineM wMod m ++ linesM (msort l) by rw [hmt.out]; rfl)
    clear hmt hok
    have cs := Lib.hid (fun (W : World) (hW : Below w.heap.size w W) => sorted_any m A c l W ((HA.out.below hW).more hW.size) hl)
    go_enter Tryz.func18, Tryz.ntmps18
    go_wp2_with (first
      | (go_at_call 14; refine cc.out.mono ?_; rintro e w1 ⟨rfl, hb1⟩;
         have q0 := (Blk.new w 28 #[.string ⟨m.1.toArray⟩, .int .i64 m.2.1, .int .i64 m.2.2.1, .int .i64 m.2.2.2, .slice A l.length c]).keep hb1;
         have hB1 := Lib.hid (((Below.refl w.heap.size w).alloc (Nat.le_refl _) _).trans (hb1.mono (by simp))); clear hb1;
         have k0 := q0.cell 0; have k1 := q0.cell 1; have k2 := q0.cell 2; have k3 := q0.cell 3; simp at k0 k1 k2 k3; have hq0 := Lib.hid q0; clear q0)
      | (go_at_call 40; refine (cl1.out _ (hp m (by simp)) (HG.out.keep hB1.out)).mono ?_; rintro e w2 ⟨rfl, hb2⟩;
         have q2 := hq0.out.keep hb2; have hB2 := Lib.hid (hB1.out.trans (hb2.mono hB1.out.size)); clear hb2;
         have j0 := q2.cell 0; have j1 := q2.cell 1; have j2 := q2.cell 2; have j3 := q2.cell 3; have j4 := q2.cell 4; simp at j0 j1 j2 j3 j4; clear q2)
      | (go_at_call 41; refine (cs.out _ hB2.out).mono ?_; rintro e w3 ⟨A3, c3, rfl, hS3, hb3⟩; have hB3 := Lib.hid (hB2.out.trans (hb3.mono hB2.out.size)); clear hb3; have fd := field_man m A3 l.length c3))
    have hll := msort_len l
    have hsm := Lib.hid (fun x (hx : x ∈ msort l) => hp x (by simp; exact .inr ((List.mergeSort_perm l _).mem_iff.1 hx)))
    have hsz3 := hB3.out.size
    generalize msort l = L at hS3 hll hsm hmt' ⊢
    have hlm := lineM_len wMod m (by decide) (hp m (by simp))
    have hG3 := Lib.hid (HG.out.keep hB3.out)
    clear HG cc cs cl1
    have e0 : ({ data := (lineT wMod m.1 m.2.1 m.2.2.1 m.2.2.2).toArray } : ByteArray) = { data := (lineM wMod m).toArray } := rfl
    rw [e0]
    clear e0
    go_wp2
    go_loopw [5, 20] (fun v i wr => ∃ k, k ≤ L.length ∧ i = .int .i64 (k : Nat) ∧ v = .string ⟨(lineM wMod m ++ linesM (L.take k)).toArray⟩ ∧ Below w3.heap.size w3 wr)
      (fun _ i _ => L.length - (intOf i).toNat)
    case atStart => exact ⟨0, Nat.zero_le _, rfl, by simp [linesM], Below.refl _ _⟩
    case round =>
      obtain ⟨k, hk, rfl, rfl, hb⟩ := hrel
      have hbz := hb.size
      have hlk := linesM_len (L.take k) (fun x hx => hsm.out x (List.mem_of_mem_take hx))
      by_cases hlt : k < L.length
      · have hlt' : (k : Int) < (l.length : Int) := by omega
        obtain ⟨b, off, rfl, hbB, g0, g1, g2, g3⟩ := (hS3.below hb).mod hlt
        have hnext := Lib.hid (linesM_take L k hlt)
        have hxs := hsm.out L[k] (List.getElem_mem hlt)
        have hxl := lineM_len wReq L[k] (by decide) hxs
        generalize L[k] = x at g0 g1 g2 g3 hnext hxs hxl
        obtain ⟨s, x1, x2, x3⟩ := x
        simp only at g0 g1 g2 g3 hxs
        have cl := Lib.hid (line_any wReq s x1 x2 x3 (wr.alloc (.cells #[.string ⟨s.toArray⟩, .int .i64 x1, .int .i64 x2, .int .i64 x3] 25)) (by decide) (by omega) ((hG3.out.keep hb).alloc _))
        have hlen : (linesM (L.take k)).length ≤ 6400 := by
          have : (L.take k).length ≤ 64 := by simp; omega
          omega
        clear hlk
        change Hid (Calls _ _ _ _ fun e w' => e = .returned (.string ⟨(lineM wReq (s, x1, x2, x3)).toArray⟩) ∧ _) at cl
        generalize lineM wReq (s, x1, x2, x3) = ln at cl hxl hnext
        generalize linesM (L.take k) = pre at hlen hnext ⊢
        generalize lineM wMod m = hd at hlm hmt' ⊢
        have nn : ¬ 9223372036854775807 < hd.length + pre.length + ln.length := by omega
        go_wp2_with (go_at_call 40; refine cl.out.mono ?_; rintro e w4 ⟨rfl, hb4⟩)
        go_roundw
        case rel => exact ⟨k + 1, by omega, by go_num, by rw [hnext.out, ByteArray.mk_append_mk]; simp, (hb.alloc hbz _).trans (hb4.mono (by simp; omega))⟩
        case measure => simp [intOf]; omega
      · obtain rfl : k = l.length := by omega
        go_wp2
        refine bodyPost_ret (v := .tuple #[.string ⟨(lineM wMod m ++ linesM L).toArray⟩, .int .i64 0]) (by simp [results, Tryz.results18, go_sem, List.take_of_length_le (Nat.le_of_eq hll)]) rfl ?_
        exact ⟨by rw [hmt'.out], hB3.out.trans (hb.mono hsz3)⟩
  · have hE' : (E != 0) = true := by simpa using hE
    have hmt' := Lib.hid (show mtext m l = [] by rw [hmt.out, if_neg hE])
    clear hE
    go_enter Tryz.func18, Tryz.ntmps18
    go_wp2_with (go_at_call 14; refine cc.out.mono ?_; rintro e w1 ⟨rfl, hb1⟩)
    refine bodyPost_ret (v := .tuple #[.string ⟨#[]⟩, .int .i64 E]) (by simp [results, Tryz.results18, go_sem]) rfl ?_
    exact ⟨by rw [hmt'.out], ((Below.refl _ _).alloc (Nat.le_refl _) _).trans (hb1.mono (by simp))⟩
end Go.Proofs.YtbbdoibmcmkmnaaGreatDoor
