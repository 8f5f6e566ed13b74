/- What the claim needs of: IO. -/
import Derived.Test.YthcgihgajdjfoaaGreatDoorV39
namespace Go.Proofs.YthcgihgajdjfoaaGreatDoor
open Go.RowKit Go.Sort
def RetSm (w : World) (P : Prop) (e : Ending) (w' : World) : Prop := ∃ b : Bool, e = .returned (.bool b) ∧ (b = true → P) ∧ Below w.heap.size w w'
structure smallM (m : Mod) (l : List Mod) : Prop where
 p : m.1.length ≤ 80
 n : l.length ≤ 8
 q : ∀ x ∈ l, x.1.length ≤ 80
structure smallR (r : RelA) : Prop where
 m : smallM r.m r.l
 n : r.s.length ≤ 4
 q : ∀ x ∈ r.s, x.1.length ≤ 80 ∧ x.2.length ≤ 200
def smallL (L : List RelA) : Prop := L.length ≤ 10 ∧ ∀ r ∈ L, smallR r
set_option maxRecDepth 100000 in
set_option maxHeartbeats 4000000 in
theorem smallMan_any (m : Mod) (A : Option Addr) (c : Nat) (l : List Mod) (w : World) (hA : Sl w w.heap.size 4 encM A l) :
  Calls Tryz.prog 12 #[.agg #[.string ⟨m.1.toArray⟩, .int .i64 m.2.1, .int .i64 m.2.2.1, .int .i64 m.2.2.2, .slice A l.length c]] w (RetSm w (smallM m l)) := by
 have HA := Lib.hid hA
 have HB0 := Lib.hid (show Below w.heap.size w (w.alloc (.cells #[.string ⟨m.1.toArray⟩, .int .i64 m.2.1, .int .i64 m.2.2.1, .int .i64 m.2.2.2, .slice A l.length c] 29)) from (Below.refl _ _).alloc (Nat.le_refl _) _)
 have Q0 := Lib.hid (Blk.new w 29 #[.string ⟨m.1.toArray⟩, .int .i64 m.2.1, .int .i64 m.2.2.1, .int .i64 m.2.2.2, .slice A l.length c])
 clear hA
 obtain ⟨y0, y1, y2, y3, y4⟩ := manC (m := m) (A := A) (n := l.length) (c := c) Q0.out
 by_cases h1 : m.1.length ≤ 80
 rotate_left
 ·have h1' : (80 : Int) < (m.1.length : Int) := by omega
  have h1d : decide ((80 : Int) < (m.1.length : Int)) = true := decide_eq_true h1'
  clear h1
  go_enter Tryz.func12, Tryz.ntmps12
  go_wp2
  go_ret
  exact ⟨false, rfl, (fun h => by cases h), HB0.out⟩
 have h1' : ¬ (80 : Int) < (m.1.length : Int) := by omega
 have h1d : decide ((80 : Int) < (m.1.length : Int)) = false := decide_eq_false h1'
 have H1 := Lib.hid h1
 clear h1
 by_cases h2 : l.length ≤ 8
 rotate_left
 ·have h2' : (8 : Int) < (l.length : Int) := by omega
  have h2d : decide ((8 : Int) < (l.length : Int)) = true := decide_eq_true h2'
  have h2n : 8 < l.length := by omega
  clear h2
  go_enter Tryz.func12, Tryz.ntmps12
  go_wp2
  go_ret
  exact ⟨false, rfl, (fun h => by cases h), HB0.out⟩
 have h2' : ¬ (8 : Int) < (l.length : Int) := by omega
 have h2d : decide ((8 : Int) < (l.length : Int)) = false := decide_eq_false h2'
 have h2n : ¬ 8 < l.length := by omega
 go_enter Tryz.func12, Tryz.ntmps12
 go_wp2
 go_loopw [3] (fun i wr => ∃ k : Nat, k ≤ l.length ∧ i = .int .i64 (k : Nat) ∧ Hid (∀ x ∈ l.take k, x.1.length ≤ 80) ∧ Hid (Below w.heap.size w wr) ∧ Hid (Blk wr w.heap.size 29 #[.string ⟨m.1.toArray⟩, .int .i64 m.2.1, .int .i64 m.2.2.1, .int .i64 m.2.2.2, .slice A l.length c])) (fun i _ => l.length - (intOf i).toNat)
 case atStart => exact ⟨0, Nat.zero_le _, rfl, Lib.hid (by simp), HB0, Q0⟩
 case round =>
  clear y0 y1 y2 y3 y4
  obtain ⟨wo, hwo⟩ : ∃ wo, wo = wr := ⟨_, rfl⟩
  subst hwo
  obtain ⟨k, hk, rfl, HI, HB, HQ⟩ := hrel
  obtain ⟨y0, y1, y2, y3, y4⟩ := manC (m := m) (A := A) (n := l.length) (c := c) HQ.out
  by_cases hlt : k < l.length
  ·have hlt' : (k : Int) < (l.length : Int) := by omega
   obtain ⟨b, off, hA1, hbB, g0, _⟩ := ((HA.out.below HB.out).more HB.out.size).mod hlt
   have HTk := Lib.hid (List.take_succ_eq_append_getElem hlt)
   generalize l[k] = x at g0 HTk
   have HA1 := Lib.hid hA1
   subst hA1
   by_cases h3 : x.1.length ≤ 80
   ·have h3' : ¬ (80 : Int) < (x.1.length : Int) := by omega
    have h3d : decide ((80 : Int) < (x.1.length : Int)) = false := decide_eq_false h3'
    have HI2 := Lib.hid (show ∀ y ∈ l.take (k + 1), y.1.length ≤ 80 from fun y hy => by
     rw [HTk.out] at hy
     rcases List.mem_append.1 hy with h | h
     ·exact HI.out y h
     ·rw [List.mem_singleton.1 h]; exact h3)
    clear h3 HTk
    go_wp2
    go_roundw
    case rel => exact ⟨k + 1, by omega, by go_num, HI2, HB, HQ⟩
    case measure => simp [intOf]; omega
   ·have h3' : (80 : Int) < (x.1.length : Int) := by omega
    have h3d : decide ((80 : Int) < (x.1.length : Int)) = true := decide_eq_true h3'
    clear h3 HTk
    go_wp2
    go_ret
    exact ⟨false, rfl, (fun h => by cases h), HB.out⟩
  ·obtain rfl : k = l.length := by omega
   go_wp2
   go_ret
   exact ⟨true, rfl, (fun _ => ⟨H1.out, h2, fun x hx => HI.out x (by rw [List.take_length]; exact hx)⟩), HB.out⟩
set_option maxRecDepth 100000 in
set_option maxHeartbeats 4000000 in
theorem smallL_any (A : Option Addr) (c : Nat) (L : List RelA) (w : World) (hA : Sl w w.heap.size 6 encR A L) (hok : ∀ r ∈ L, RelOk w r) :
  Calls Tryz.prog 11 #[.slice A L.length c] w (RetSm w (smallL L)) := by
 have HA := Lib.hid hA
 have HOK := Lib.hid hok
 clear hA hok
 by_cases h1 : L.length ≤ 10
 rotate_left
 ·have h1' : (10 : Int) < (L.length : Int) := by omega
  have h1n : 10 < L.length := by omega
  clear h1
  go_enter Tryz.func11, Tryz.ntmps11
  go_wp2
  go_ret
  exact ⟨false, rfl, (fun h => by cases h), Below.refl _ _⟩
 have h1' : ¬ (10 : Int) < (L.length : Int) := by omega
 have h1n : ¬ 10 < L.length := by omega
 go_enter Tryz.func11, Tryz.ntmps11
 go_wp2
 go_loopw [3] (fun i wr => ∃ k : Nat, k ≤ L.length ∧ i = .int .i64 (k : Nat) ∧ Hid (∀ x ∈ L.take k, smallR x) ∧ Hid (Below w.heap.size w wr)) (fun i _ => L.length - (intOf i).toNat)
 case atStart => exact ⟨0, Nat.zero_le _, rfl, Lib.hid (by simp), Lib.hid (Below.refl _ _)⟩
 case round =>
  obtain ⟨wo, hwo⟩ : ∃ wo, wo = wr := ⟨_, rfl⟩
  subst hwo
  obtain ⟨k, hk, rfl, HI, HB⟩ := hrel
  by_cases hlt : k < L.length
  ·have hlt' : (k : Int) < (L.length : Int) := by omega
   have hk0 : (0 : Int) ≤ (k : Int) := by omega
   obtain ⟨b, off, hA1, hbB, g0, g1, g2, g3, g4, g5⟩ := ((HA.out.below HB.out).more HB.out.size).rel hlt
   have hrk := (HOK.out _ (List.getElem_mem hlt)).below HB.out
   have HTk := Lib.hid (List.take_succ_eq_append_getElem hlt)
   generalize L[k] = r at g0 g1 g2 g3 g4 g5 hrk HTk
   have HS := Lib.hid hrk.hS
   have cM := Lib.hid (smallMan_any r.m r.A r.c r.l wo hrk.hA)
   have HA1 := Lib.hid hA1
   subst hA1
   clear hrk
   go_wp2_with fail
   refine cM.out.mono ?_
   rintro e w2 ⟨bb, rfl, hbi, hb2⟩
   have HBI := Lib.hid hbi
   have HX2 := Lib.hid hb2
   have HB2 := Lib.hid (HB.out.trans (hb2.mono HB.out.size))
   have g0' := cell_keep hb2 g0
   have g1' := cell_keep hb2 g1
   have g2' := cell_keep hb2 g2
   have g3' := cell_keep hb2 g3
   have g4' := cell_keep hb2 g4
   have g5' := cell_keep hb2 g5
   clear hbi hb2 cM g0 g1 g2 g3 g4 g5
   cases bb
   ·go_wp2
    go_ret
    exact ⟨false, rfl, (fun h => by cases h), HB2.out⟩
   have HSm := Lib.hid (HBI.out rfl)
   by_cases h2 : r.s.length ≤ 4
   rotate_left
   ·have h2' : (4 : Int) < (r.s.length : Int) := by omega
    have h2n : 4 < r.s.length := by omega
    clear h2
    go_wp2
    go_ret
    exact ⟨false, rfl, (fun h => by cases h), HB2.out⟩
   have h2' : ¬ (4 : Int) < (r.s.length : Int) := by omega
   have h2n : ¬ 4 < r.s.length := by omega
   go_wp2
   go_loopw [4] (fun i wr => ∃ j : Nat, j ≤ r.s.length ∧ i = .int .i64 (j : Nat) ∧ Hid (∀ x ∈ r.s.take j, x.1.length ≤ 80 ∧ x.2.length ≤ 200) ∧ wr = w2) (fun i _ => r.s.length - (intOf i).toNat)
   case atStart => exact ⟨0, Nat.zero_le _, rfl, Lib.hid (by simp), rfl⟩
   case round =>
    obtain ⟨j, hj, rfl, HJ, rfl⟩ := hrel
    by_cases hjl : j < r.s.length
    ·have hjl' : (j : Int) < (r.s.length : Int) := by omega
     obtain ⟨b3, o3, hA3, hb3, e0, e1⟩ := ((HS.out.below HX2.out).more HX2.out.size).src2 hjl
     have HTj := Lib.hid (List.take_succ_eq_append_getElem hjl)
     generalize r.s[j] = x at e0 e1 HTj
     rw [hA3] at g5'
     by_cases h3 : x.1.length ≤ 80
     ·have h3' : ¬ (80 : Int) < (x.1.length : Int) := by omega
      by_cases h4 : x.2.length ≤ 200
      ·have h4' : ¬ (200 : Int) < (x.2.length : Int) := by omega
       have HJ2 := Lib.hid (show ∀ y ∈ r.s.take (j + 1), y.1.length ≤ 80 ∧ y.2.length ≤ 200 from fun y hy => by
        rw [HTj.out] at hy
        rcases List.mem_append.1 hy with h | h
        ·exact HJ.out y h
        ·rw [List.mem_singleton.1 h]; exact ⟨h3, h4⟩)
       have h3d : decide ((80 : Int) < (x.1.length : Int)) = false := decide_eq_false h3'
       have h4d : decide ((200 : Int) < (x.2.length : Int)) = false := decide_eq_false h4'
       clear h3 h4 HTj hA3
       go_wp2
       go_roundw
       case rel => exact ⟨j + 1, by omega, by go_num, HJ2, by first | rfl | trivial⟩
       case measure => simp [intOf]; omega
      ·have h4' : (200 : Int) < (x.2.length : Int) := by omega
       have h3d : decide ((80 : Int) < (x.1.length : Int)) = false := decide_eq_false h3'
       have h4d : decide ((200 : Int) < (x.2.length : Int)) = true := decide_eq_true h4'
       clear h3 h4 HTj hA3
       go_wp2
       go_ret
       exact ⟨false, rfl, (fun h => by cases h), HB2.out⟩
     ·have h3' : (80 : Int) < (x.1.length : Int) := by omega
      have h3d : decide ((80 : Int) < (x.1.length : Int)) = true := decide_eq_true h3'
      clear h3 HTj hA3
      go_wp2
      go_ret
      exact ⟨false, rfl, (fun h => by cases h), HB2.out⟩
    ·obtain rfl : j = r.s.length := by omega
     have HI2 := Lib.hid (show ∀ x ∈ L.take (k + 1), smallR x from fun x hx => by
      rw [HTk.out] at hx
      rcases List.mem_append.1 hx with h | h
      ·exact HI.out x h
      ·rw [List.mem_singleton.1 h]
       exact ⟨HSm.out, h2, fun y hy => HJ.out y (by rw [List.take_length]; exact hy)⟩)
     clear HTk
     go_wp2
     go_roundw
     case rel => exact ⟨k + 1, by omega, by go_num, HI2, HB2⟩
     case measure => first | (simp [intOf]; done) | (simp [intOf]; omega)
  ·obtain rfl : k = L.length := by omega
   go_wp2
   go_ret
   exact ⟨true, rfl, (fun _ => ⟨h1, fun x hx => HI.out x (by rw [List.take_length]; exact hx)⟩), HB.out⟩
set_option maxRecDepth 100000 in
theorem eq_src2 (p p' q q' : List UInt8) (w : World) :
  (Op.equalIn 10000 64 (.agg #[.string ⟨p.toArray⟩, .string ⟨q.toArray⟩]) (.agg #[.string ⟨p'.toArray⟩, .string ⟨q'.toArray⟩])).run Tryz.prog w = .ok (decide ((p, q) = (p', q'))) w := by
 by_cases hp : p = p' <;> by_cases hq : q = q' <;> simp [go_sem, hp, hq]
theorem module_any (p : List UInt8) (n : Int) (w : World) : Calls Tryz.prog 26 #[.string ⟨p.toArray⟩, .int .i64 n] w fun e w' => e = .returned (.agg #[.string ⟨p.toArray⟩, .int .i64 1, .int .i64 n, .int .i64 0]) ∧ w' = w.alloc (.cells #[.string ⟨p.toArray⟩, .int .i64 1, .int .i64 n, .int .i64 0] 26) := by
 go_enter Tryz.func26, Tryz.ntmps26
 go_wp2
 refine bodyPost_ret (v := .agg #[.string ⟨p.toArray⟩, .int .i64 1, .int .i64 n, .int .i64 0]) (by simp [results, Tryz.results26, go_sem]) rfl ⟨rfl, ?_⟩
 first | rfl | trivial
def RELB (m : Mod) (A : Option Addr) (c n : Nat) (A' : Option Addr) (c' n' : Nat) : Array Value := #[.string ⟨m.1.toArray⟩, .int .i64 m.2.1, .int .i64 m.2.2.1, .int .i64 m.2.2.2, .slice A n c, .slice A' n' c']
set_option maxRecDepth 100000 in
set_option maxHeartbeats 4000000 in
theorem sameRel_any (m : Mod) (l : List Mod) (s : List Src2) (A1 : Option Addr) (c1 : Nat) (A1' : Option Addr) (c1' : Nat) (A2 : Option Addr) (c2 : Nat) (A2' : Option Addr) (c2' : Nat) (w : World) (h1 : Sl w w.heap.size 4 encM A1 l) (h2 : Sl w w.heap.size 4 encM A2 l) (h3 : Sl w w.heap.size 2 encT A1' s) (h4 : Sl w w.heap.size 2 encT A2' s) (hl : l.length ≤ 1099511627776) (hs : s.length ≤ 1099511627776) :
  Calls Tryz.prog 36 #[.agg #[.string ⟨m.1.toArray⟩, .int .i64 m.2.1, .int .i64 m.2.2.1, .int .i64 m.2.2.2, .slice A1 l.length c1, .slice A1' s.length c1'], .agg #[.string ⟨m.1.toArray⟩, .int .i64 m.2.1, .int .i64 m.2.2.1, .int .i64 m.2.2.2, .slice A2 l.length c2, .slice A2' s.length c2']] w fun e w' => e = .returned (.bool true) ∧ Below w.heap.size w w' := by
 have H1 := Lib.hid h1
 have H2 := Lib.hid h2
 have H3 := Lib.hid h3
 have H4 := Lib.hid h4
 have HB0 := Lib.hid (show Below w.heap.size w ((w.alloc (.cells (RELB m A1 c1 l.length A1' c1' s.length) 62)).alloc (.cells (RELB m A2 c2 l.length A2' c2' s.length) 62)) from ((Below.refl _ _).alloc (Nat.le_refl _) _).alloc (by simp) _)
 have Q1 := Lib.hid ((Blk.new w 62 (RELB m A1 c1 l.length A1' c1' s.length)).keep ((Below.refl _ _).alloc (Nat.le_refl _) (.cells (RELB m A2 c2 l.length A2' c2' s.length) 62)))
 have q2 := Blk.new (w.alloc (.cells (RELB m A1 c1 l.length A1' c1' s.length) 62)) 62 (RELB m A2 c2 l.length A2' c2' s.length)
 rw [World.size_alloc] at q2
 have Q2 := Lib.hid q2
 unfold RELB at HB0 Q1 Q2
 have heq : ∀ (m : Mod) W, (Op.equalIn 10000 26 (.agg #[.string ⟨m.1.toArray⟩, .int .i64 m.2.1, .int .i64 m.2.2.1, .int .i64 m.2.2.2]) (.agg #[.string ⟨m.1.toArray⟩, .int .i64 m.2.1, .int .i64 m.2.2.1, .int .i64 m.2.2.2])).run Tryz.prog W = .ok true W := fun m W => by
  have h := eq_mod m.1 m.1 m.2.1 m.2.2.1 m.2.2.2 m.2.1 m.2.2.1 m.2.2.2 W
  rw [decide_eq_true rfl] at h
  exact h
 have hes : ∀ (x : Src2) W, (Op.equalIn 10000 64 (.agg #[.string ⟨x.1.toArray⟩, .string ⟨x.2.toArray⟩]) (.agg #[.string ⟨x.1.toArray⟩, .string ⟨x.2.toArray⟩])).run Tryz.prog W = .ok true W := fun x W => by
  have h := eq_src2 x.1 x.1 x.2 x.2 W
  rw [decide_eq_true rfl] at h
  exact h
 clear h1 h2 h3 h4 q2
 obtain ⟨r0, r1, r2, r3, r4, r5⟩ := relC Q1.out
 obtain ⟨s0, s1, s2, s3, s4, s5⟩ := relC Q2.out
 go_enter Tryz.func36, Tryz.ntmps36
 go_wp2
 go_loopw [5] (fun i wr => ∃ k : Nat, k ≤ l.length ∧ i = .int .i64 (k : Nat) ∧ Hid (Below w.heap.size w wr) ∧ Hid (Blk wr w.heap.size 62 #[.string ⟨m.1.toArray⟩, .int .i64 m.2.1, .int .i64 m.2.2.1, .int .i64 m.2.2.2, .slice A1 l.length c1, .slice A1' s.length c1']) ∧ Hid (Blk wr (w.heap.size + 1) 62 #[.string ⟨m.1.toArray⟩, .int .i64 m.2.1, .int .i64 m.2.2.1, .int .i64 m.2.2.2, .slice A2 l.length c2, .slice A2' s.length c2'])) (fun i _ => l.length - (intOf i).toNat)
 case atStart => exact ⟨0, Nat.zero_le _, rfl, HB0, Q1, Q2⟩
 case round =>
  clear r0 r1 r2 r3 r4 r5 s0 s1 s2 s3 s4 s5 Q1 Q2 HB0
  obtain ⟨wo, hwo⟩ : ∃ wo, wo = wr := ⟨_, rfl⟩
  subst hwo
  obtain ⟨k, hk, rfl, HB, Q1, Q2⟩ := hrel
  obtain ⟨r0, r1, r2, r3, r4, r5⟩ := relC Q1.out
  obtain ⟨s0, s1, s2, s3, s4, s5⟩ := relC Q2.out
  by_cases hlt : k < l.length
  ·have hlt' : (k : Int) < (l.length : Int) := by omega
   obtain ⟨b1, o1, hA1, hb1, g0, g1, g2, g3⟩ := ((H1.out.below HB.out).more HB.out.size).mod hlt
   obtain ⟨b2, o2, hA2, hb2, e0, e1, e2, e3⟩ := ((H2.out.below HB.out).more HB.out.size).mod hlt
   generalize l[k] = x at g0 g1 g2 g3 e0 e1 e2 e3
   rw [hA1] at r4
   rw [hA2] at s4
   have hx := heq x
   clear hA1 hA2
   go_wp2
   go_quiet (fail)
   go_wp2
   go_roundw
   case rel => exact ⟨k + 1, by omega, by go_num, Lib.hid (HB.out.drewN _), Lib.hid (Q1.out.keep ((Below.refl _ _).drewN _)), Lib.hid (Q2.out.keep ((Below.refl _ _).drewN _))⟩
   case measure => simp [intOf]; omega
  ·obtain rfl : k = l.length := by omega
   go_wp2
   go_loopw [6] (fun i wr => ∃ k : Nat, k ≤ s.length ∧ i = .int .i64 (k : Nat) ∧ Hid (Below w.heap.size w wr) ∧ Hid (Blk wr w.heap.size 62 #[.string ⟨m.1.toArray⟩, .int .i64 m.2.1, .int .i64 m.2.2.1, .int .i64 m.2.2.2, .slice A1 l.length c1, .slice A1' s.length c1']) ∧ Hid (Blk wr (w.heap.size + 1) 62 #[.string ⟨m.1.toArray⟩, .int .i64 m.2.1, .int .i64 m.2.2.1, .int .i64 m.2.2.2, .slice A2 l.length c2, .slice A2' s.length c2'])) (fun i _ => s.length - (intOf i).toNat)
   case atStart => exact ⟨0, Nat.zero_le _, rfl, HB, Q1, Q2⟩
   case round =>
    clear r0 r1 r2 r3 r4 r5 s0 s1 s2 s3 s4 s5 Q1 Q2 HB
    obtain ⟨wo, hwo⟩ : ∃ wo, wo = wr := ⟨_, rfl⟩
    subst hwo
    obtain ⟨k, hk, rfl, HB, Q1, Q2⟩ := hrel
    obtain ⟨r0, r1, r2, r3, r4, r5⟩ := relC Q1.out
    obtain ⟨s0, s1, s2, s3, s4, s5⟩ := relC Q2.out
    by_cases hlt : k < s.length
    ·have hlt' : (k : Int) < (s.length : Int) := by omega
     obtain ⟨b1, o1, hA1, hb1, g0, g1⟩ := ((H3.out.below HB.out).more HB.out.size).src2 hlt
     obtain ⟨b2, o2, hA2, hb2, e0, e1⟩ := ((H4.out.below HB.out).more HB.out.size).src2 hlt
     generalize s[k] = x at g0 g1 e0 e1
     rw [hA1] at r5
     rw [hA2] at s5
     have hx := hes x
     clear hA1 hA2
     go_wp2
     go_quiet (fail)
     go_wp2
     go_roundw
     case rel => exact ⟨k + 1, by omega, by go_num, Lib.hid (HB.out.drewN _), Lib.hid (Q1.out.keep ((Below.refl _ _).drewN _)), Lib.hid (Q2.out.keep ((Below.refl _ _).drewN _))⟩
     case measure => simp [intOf]; omega
    ·obtain rfl : k = s.length := by omega
     go_wp2
     go_ret
     exact ⟨rfl, HB.out⟩
set_option maxRecDepth 100000 in
theorem frame27_17_18_19_20_21_22_23_24_25_26 {Q : Exit → Act → World → Prop} {W : World} {fs : List Fact} (t0 t1 t2 t3 t4 t5 t6 t7 t8 t9 t10 t11 t12 t13 t14 t15 t16 t17 t18 t19 t20 t21 t22 t23 t24 t25 t26 v0 v1 v2 v3 v4 v5 v6 v7 v8 v9 : Value) (h : Q .normal (Act.mk #[t0, t1, t2, t3, t4, t5, t6, t7, t8, t9, t10, t11, t12, t13, t14, t15, t16, v0, v1, v2, v3, v4, v5, v6, v7, v8, v9] []) W) : FinAll W (fun A => Q .normal A W) [] fs (Act.put (Act.put (Act.put (Act.put (Act.put (Act.put (Act.put (Act.put (Act.put (Act.put (Act.mk #[t0, t1, t2, t3, t4, t5, t6, t7, t8, t9, t10, t11, t12, t13, t14, t15, t16, t17, t18, t19, t20, t21, t22, t23, t24, t25, t26] []) (some 17) v0) (some 18) v1) (some 19) v2) (some 20) v3) (some 21) v4) (some 22) v5) (some 23) v6) (some 24) v7) (some 25) v8) (some 26) v9) :=
 fin_end (by kernel_rfl) h
set_option maxRecDepth 100000 in
set_option maxHeartbeats 4000000 in
theorem sameL_any (A1 : Option Addr) (c1 : Nat) (L1 : List RelA) (A2 : Option Addr) (c2 : Nat) (L2 : List RelA) (w : World) (h1 : Sl w w.heap.size 6 encR A1 L1) (h2 : Sl w w.heap.size 6 encR A2 L2) (ho1 : ∀ r ∈ L1, RelOk w r) (ho2 : ∀ r ∈ L2, RelOk w r) (he : L1.map RelA.rel = L2.map RelA.rel) (hl : L1.length ≤ 100000) :
  Calls Tryz.prog 16 #[.slice A1 L1.length c1, .slice A2 L2.length c2] w fun e w' => e = .returned (.bool true) ∧ Below w.heap.size w w' := by
 have H1 := Lib.hid h1
 have H2 := Lib.hid h2
 have HO1 := Lib.hid ho1
 have HO2 := Lib.hid ho2
 have hll : L1.length = L2.length := by simpa using congrArg List.length he
 have HE := Lib.hid (fun k (hk : k < L1.length) (hk2 : k < L2.length) => show L1[k].rel = L2[k].rel from by
  have h := congrArg (fun l => l[k]?) he
  simpa [hk, hk2] using h)
 clear h1 h2 ho1 ho2 he
 have HLL := Lib.hid hll
 rw [← hll]
 clear hll
 go_enter Tryz.func16, Tryz.ntmps16
 go_wp2
 go_loopw [5] (fun i wr => ∃ k : Nat, k ≤ L1.length ∧ i = .int .i64 (k : Nat) ∧ Hid (Below w.heap.size w wr)) (fun i _ => L1.length - (intOf i).toNat)
 case atStart => exact ⟨0, Nat.zero_le _, rfl, Lib.hid (Below.refl _ _)⟩
 case round =>
  obtain ⟨wo, hwo⟩ : ∃ wo, wo = wr := ⟨_, rfl⟩
  subst hwo
  obtain ⟨k, hk, rfl, HB⟩ := hrel
  by_cases hlt : k < L1.length
  ·have hlt' : (k : Int) < (L1.length : Int) := by omega
   have hk0 : (0 : Int) ≤ (k : Int) := by omega
   have hlt2 : k < L2.length := by rw [← HLL.out]; exact hlt
   obtain ⟨b1, o1, hA1, hbb1, g0, g1, g2, g3, g4, g5⟩ := ((H1.out.below HB.out).more HB.out.size).rel hlt
   obtain ⟨b2, o2, hA2, hbb2, h0, h1, h2, h3, h4, h5⟩ := ((H2.out.below HB.out).more HB.out.size).rel hlt2
   have e := HE.out k hlt hlt2
   have q1 := HO1.out _ (List.getElem_mem hlt)
   have q2 := HO2.out _ (List.getElem_mem hlt2)
   generalize L1[k] = p at g0 g1 g2 g3 g4 g5 e q1
   generalize L2[k] = q at h0 h1 h2 h3 h4 h5 e q2
   obtain ⟨m, B1, d1, l, B1', d1', s⟩ := p
   obtain ⟨m2, B2, d2, l2, B2', d2', s2⟩ := q
   simp only [RelA.rel] at e g0 g1 g2 g3 g4 g5 h0 h1 h2 h3 h4 h5
   injection e with e1 e2
   injection e2 with e2 e3
   subst e1 e2 e3
   have cR := Lib.hid (fun W (hW : Below wo.heap.size wo W) => sameRel_any m l s B1 d1 B1' d1' B2 d2 B2' d2' W ((q1.below (HB.out.trans (hW.mono HB.out.size))).hA) ((q2.below (HB.out.trans (hW.mono HB.out.size))).hA) ((q1.below (HB.out.trans (hW.mono HB.out.size))).hS) ((q2.below (HB.out.trans (hW.mono HB.out.size))).hS) q1.hl q1.hsl)
   have HA1 := Lib.hid hA1
   have HA2 := Lib.hid hA2
   subst hA1 hA2
   clear q1 q2
   go_upto_region 6 with fail
   apply wp_region_facts (by kernel_rfl) [isv _, isv _, isv _, isv _, isv _, isv _, isv _, isv _, isv _, isv _] wo.heap.size wo (Nat.le_refl _) (Below.refl _ _).drew (by kernel_rfl) (by kernel_rfl) (by kernel_rfl) (And.intro (isv_mono _) (And.intro (isv_mono _) (And.intro (isv_mono _) (And.intro (isv_mono _) (And.intro (isv_mono _) (And.intro (isv_mono _) (And.intro (isv_mono _) (And.intro (isv_mono _) (And.intro (isv_mono _) (And.intro (isv_mono _) trivial)))))))))) ?steps (by rfl) ?fin
   case steps =>
    refine (And.intro ?o0 (And.intro ?o1 (And.intro ?o2 (And.intro ?o3 (And.intro ?o4 (And.intro ?o5 (And.intro ?o6 (And.intro ?o7 (And.intro ?o8 (And.intro ?o9 trivial))))))))))
    case o0 =>
     intro AA W KK QQ hB hs hd hl hk
     have sl0 := hs 0 _ (by kernel_rfl) rfl
     clear hs hd hl
     go_simp
     exact hk _ _ rfl (Below.refl _ _)
    case o1 =>
     intro AA W KK QQ hB hs hd hl hk
     have sl5 := hs 5 _ (by kernel_rfl) rfl
     clear hs hd hl
     go_simp
     exact hk _ _ rfl (Below.refl _ _)
    case o2 =>
     intro AA W KK QQ hB hs hd hl hk
     obtain ⟨_, sl17, rfl⟩ := hd 0 17 (by kernel_rfl) rfl
     obtain ⟨_, sl18, rfl⟩ := hd 1 18 (by kernel_rfl) rfl
     clear hs hd hl
     go_simp
     exact hk _ _ rfl (Below.refl _ _)
    case o3 =>
     intro AA W KK QQ hB hs hd hl hk
     obtain ⟨_, sl19, rfl⟩ := hd 2 19 (by kernel_rfl) rfl
     clear hs hd hl
     have hx0 := hB.cell (p := ⟨b1, o1 + k * 6, none⟩) hbb1
     have hx1 := hB.cell (p := ⟨b1, o1 + k * 6 + 1, none⟩) hbb1
     have hx2 := hB.cell (p := ⟨b1, o1 + k * 6 + 2, none⟩) hbb1
     have hx3 := hB.cell (p := ⟨b1, o1 + k * 6 + 3, none⟩) hbb1
     have hx4 := hB.cell (p := ⟨b1, o1 + k * 6 + 4, none⟩) hbb1
     have hx5 := hB.cell (p := ⟨b1, o1 + k * 6 + 5, none⟩) hbb1
     rw [g0] at hx0
     rw [g1] at hx1
     rw [g2] at hx2
     rw [g3] at hx3
     rw [g4] at hx4
     rw [g5] at hx5
     go_simp
     exact hk _ _ rfl (Below.refl _ _)
    case o4 =>
     intro AA W KK QQ hB hs hd hl hk
     have sl1 := hs 1 _ (by kernel_rfl) rfl
     clear hs hd hl
     go_simp
     exact hk _ _ rfl (Below.refl _ _)
    case o5 =>
     intro AA W KK QQ hB hs hd hl hk
     have sl5 := hs 5 _ (by kernel_rfl) rfl
     clear hs hd hl
     go_simp
     exact hk _ _ rfl (Below.refl _ _)
    case o6 =>
     intro AA W KK QQ hB hs hd hl hk
     obtain ⟨_, sl21, rfl⟩ := hd 4 21 (by kernel_rfl) rfl
     obtain ⟨_, sl22, rfl⟩ := hd 5 22 (by kernel_rfl) rfl
     clear hs hd hl
     go_simp
     exact hk _ _ rfl (Below.refl _ _)
    case o7 =>
     intro AA W KK QQ hB hs hd hl hk
     obtain ⟨_, sl23, rfl⟩ := hd 6 23 (by kernel_rfl) rfl
     clear hs hd hl
     have hx0 := hB.cell (p := ⟨b2, o2 + k * 6, none⟩) hbb2
     have hx1 := hB.cell (p := ⟨b2, o2 + k * 6 + 1, none⟩) hbb2
     have hx2 := hB.cell (p := ⟨b2, o2 + k * 6 + 2, none⟩) hbb2
     have hx3 := hB.cell (p := ⟨b2, o2 + k * 6 + 3, none⟩) hbb2
     have hx4 := hB.cell (p := ⟨b2, o2 + k * 6 + 4, none⟩) hbb2
     have hx5 := hB.cell (p := ⟨b2, o2 + k * 6 + 5, none⟩) hbb2
     rw [h0] at hx0
     rw [h1] at hx1
     rw [h2] at hx2
     rw [h3] at hx3
     rw [h4] at hx4
     rw [h5] at hx5
     go_simp
     exact hk _ _ rfl (Below.refl _ _)
    case o8 =>
     intro AA W KK QQ hB hs hd hl hk
     obtain ⟨_, sl20, rfl⟩ := hd 3 20 (by kernel_rfl) rfl
     obtain ⟨_, sl24, rfl⟩ := hd 7 24 (by kernel_rfl) rfl
     clear hs hd hl
     go_simp
     refine (cR.out W hB).mono ?_
     rintro e W2 ⟨rfl, hb2⟩
     exact hk _ _ rfl hb2
    case o9 =>
     intro AA W KK QQ hB hs hd hl hk
     obtain ⟨_, sl25, rfl⟩ := hd 8 25 (by kernel_rfl) rfl
     clear hs hd hl
     go_simp
     exact hk _ _ rfl (Below.refl _ _)
   case fin =>
    intro wf hB
    refine fin_isv 17 rfl ?_
    refine fin_isv 18 rfl ?_
    refine fin_isv 19 rfl ?_
    refine fin_isv 20 rfl ?_
    refine fin_isv 21 rfl ?_
    refine fin_isv 22 rfl ?_
    refine fin_isv 23 rfl ?_
    refine fin_isv 24 rfl ?_
    refine fin_isv 25 rfl ?_
    refine fin_isv 26 rfl ?_
    refine frame27_17_18_19_20_21_22_23_24_25_26 _ _ _ _ _ _ _ _ _ _ _ _ _ _ _ _ _ _ _ _ _ _ _ _ _ _ _ _ _ _ _ _ _ _ _ _ _ ?_
    have HBf := Lib.hid (HB.out.trans (hB.mono HB.out.size))
    clear hB g0 g1 g2 g3 g4 g5 h0 h1 h2 h3 h4 h5
    go_wp2
    go_roundw
    case rel => exact ⟨k + 1, by omega, by go_num, HBf⟩
    case measure => first | (simp [intOf]; done) | (simp [intOf]; omega)
  ·obtain rfl : k = L1.length := by omega
   go_wp2
   go_ret
   exact ⟨rfl, HB.out⟩
end Go.Proofs.YthcgihgajdjfoaaGreatDoor
