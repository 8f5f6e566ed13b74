/- What the claim needs of: IG. -/
import Derived.Test.YthcgihgajdjfoaaGreatDoorV20
import Derived.Test.YthcgihgajdjfoaaGreatDoorV24
import Derived.Test.YthcgihgajdjfoaaGreatDoorV34
import Derived.Test.YthcgihgajdjfoaaGreatDoorV27
namespace Go.Proofs.YthcgihgajdjfoaaGreatDoor
open Go.RowKit Go.Sort
def metQ (q m : Mod) (g : Bool) : Bool := decide (q.1 = m.1) && decide (if g = true then 0 < vcmpV q.2 m.2 else 0 ≤ vcmpV q.2 m.2)
theorem metP_eq (L : List RelA) (m : Mod) (g : Bool) : metP (L.map RelA.rel) m g = L.any fun r => metQ r.m m g := by
 unfold metP
 rw [List.any_map]
 rfl
set_option maxRecDepth 100000 in
set_option maxHeartbeats 4000000 in
theorem met_any (A : Option Addr) (c : Nat) (L : List RelA) (m : Mod) (g : Bool) (w : World) (hA : Sl w w.heap.size 6 encR A L) (hl : L.length ≤ 1000000) :
  Calls Tryz.prog 53 #[.slice A L.length c, .agg #[.string ⟨m.1.toArray⟩, .int .i64 m.2.1, .int .i64 m.2.2.1, .int .i64 m.2.2.2], .bool g] w fun e w' => e = .returned (.bool (metP (L.map RelA.rel) m g)) ∧ Below w.heap.size w w' := by
 have HA := Lib.hid hA
 have HB0 := Lib.hid (show Below w.heap.size w (w.alloc (.cells #[.string ⟨m.1.toArray⟩, .int .i64 m.2.1, .int .i64 m.2.2.1, .int .i64 m.2.2.2] 26)) from (Below.refl _ _).alloc (Nat.le_refl _) _)
 have Q0 := Lib.hid (Blk.new w 26 #[.string ⟨m.1.toArray⟩, .int .i64 m.2.1, .int .i64 m.2.2.1, .int .i64 m.2.2.2])
 obtain ⟨r, hr⟩ : ∃ r, r = metP (L.map RelA.rel) m g := ⟨_, rfl⟩
 rw [← hr]
 rw [metP_eq] at hr
 have HR := Lib.hid hr
 clear hA hr
 go_enter Tryz.func53, Tryz.ntmps53
 go_wp2
 go_loopw [7] (fun i wr => ∃ k : Nat, k ≤ L.length ∧ i = .int .i64 (k : Nat) ∧ Hid (∀ q ∈ L.take k, metQ q.m m g = false) ∧ Hid (Below w.heap.size w wr) ∧ Hid (Blk wr w.heap.size 26 #[.string ⟨m.1.toArray⟩, .int .i64 m.2.1, .int .i64 m.2.2.1, .int .i64 m.2.2.2])) (fun i _ => L.length - (intOf i).toNat)
 case atStart => exact ⟨0, Nat.zero_le _, rfl, Lib.hid (by simp), HB0, Q0⟩
 case round =>
  obtain ⟨wo, hwo⟩ : ∃ wo, wo = wr := ⟨_, rfl⟩
  subst hwo
  obtain ⟨k, hk, rfl, HI, HB, HQ⟩ := hrel
  by_cases hlt : k < L.length
  ·have hlt' : (k : Int) < (L.length : Int) := by omega
   obtain ⟨b, off, hA1, hbB, g0, g1, g2, g3, _, _⟩ := ((HA.out.below HB.out).more HB.out.size).rel hlt
   have HTk := Lib.hid (List.take_succ_eq_append_getElem hlt)
   have HIn := Lib.hid (List.getElem_mem hlt)
   generalize L[k] = q at g0 g1 g2 g3 HTk HIn
   have HT := Lib.hid (fun (h : metQ q.m m g = true) => show r = true from by rw [HR.out, List.any_eq_true]; exact ⟨q, HIn.out, h⟩)
   have HN := Lib.hid (fun (h : metQ q.m m g = false) z (hz : z ∈ L.take (k + 1)) => show metQ z.m m g = false from by
    rw [HTk.out] at hz
    rcases List.mem_append.1 hz with hz | hz
    ·exact HI.out z hz
    ·rw [List.mem_singleton.1 hz]; exact h)
   generalize q.m = p at g0 g1 g2 g3 HT HN
   have HE := Lib.hid (show metQ p m g = (decide (p.1 = m.1) && decide (if g = true then 0 < vcmpV p.2 m.2 else 0 ≤ vcmpV p.2 m.2)) from rfl)
   have HA1 := Lib.hid hA1
   subst hA1
   have HW2 := Lib.hid (show Below wo.heap.size wo (wo.alloc (.cells #[.string ⟨p.1.toArray⟩, .int .i64 p.2.1, .int .i64 p.2.2.1, .int .i64 p.2.2.2] 26)) from (Below.refl _ _).alloc (Nat.le_refl _) _)
   have V1 := Lib.hid (Blk.new wo 26 #[.string ⟨p.1.toArray⟩, .int .i64 p.2.1, .int .i64 p.2.2.1, .int .i64 p.2.2.2])
   have Q1 := Lib.hid (HQ.out.keep HW2.out)
   obtain ⟨u0, u1, u2, u3⟩ := modC (m := p) V1.out
   obtain ⟨v0, v1, v2, v3⟩ := modC (m := m) Q1.out
   have cC := Lib.hid (fun W => show Calls Tryz.prog 55 #[.agg #[.int .i64 p.2.1, .int .i64 p.2.2.1, .int .i64 p.2.2.2], .agg #[.int .i64 m.2.1, .int .i64 m.2.2.1, .int .i64 m.2.2.2]] W (fun e w' => e = .returned (.int .i64 (vcmpV p.2 m.2)) ∧ Below W.heap.size W w') from refCompare_any _ _ _ _ _ _ W)
   generalize vcmpV p.2 m.2 = cv at cC HE
   go_wp2_with fail
   refine (cC.out _).mono ?_
   rintro e w2 ⟨rfl, hb2⟩
   have HX2 := Lib.hid (HW2.out.trans (hb2.mono HW2.out.size))
   have HB2 := Lib.hid (HB.out.trans (HX2.out.mono HB.out.size))
   have HQ2 := Lib.hid (HQ.out.keep HX2.out)
   have V2 := V1.out.keep hb2
   clear hb2 cC u0 u1 u2 u3 v0 v1 v2 v3 g0 g1 g2 g3 HIn HTk
   obtain ⟨u0, u1, u2, u3⟩ := modC (m := p) V2
   obtain ⟨v0, v1, v2, v3⟩ := modC (m := m) HQ2.out
   by_cases hp : p.1 = m.1
   ·by_cases hc : 0 < cv
    ·have HF := Lib.hid (HT.out (by rw [HE.out, decide_eq_true hp]; cases g <;> simp [hc]; omega))
     clear HT HN HE
     rw [hp] at u0
     clear hp
     skip
     go_wp2
     go_ret
     exact ⟨by rw [HF.out]; rfl, HB2.out⟩
    ·by_cases hz : cv = 0
     ·have hcz : (cv == 0) = true := by simpa using hz
      cases g
      ·have HF := Lib.hid (HT.out (by rw [HE.out, decide_eq_true hp, hz]; rfl))
       clear HT HN HE hz
       rw [hp] at u0
       clear hp
       skip
       go_wp2
       go_ret
       exact ⟨by rw [HF.out]; rfl, HB2.out⟩
      ·have HI2 := Lib.hid (HN.out (by rw [HE.out, hz]; simp))
       clear HT HN HE hz
       rw [hp] at u0
       clear hp
       skip
       go_wp2
       go_roundw
       case rel => exact ⟨k + 1, by omega, by go_num, HI2, HB2, HQ2⟩
       case measure => simp [intOf]; omega
     ·have hcz : (cv == 0) = false := by simpa using hz
      have HI2 := Lib.hid (HN.out (by
       rw [HE.out, decide_eq_true hp]
       have h1 : ¬ (0 ≤ cv) := by omega
       cases g <;> simp <;> omega))
      clear HT HN HE hz
      rw [hp] at u0
      clear hp
      skip
      go_wp2
      go_roundw
      case rel => exact ⟨k + 1, by omega, by go_num, HI2, HB2, HQ2⟩
      case measure => simp [intOf]; omega
   ·have hp' : (p.1 == m.1) = false := beq_eq_false_iff_ne.2 hp
    have HI2 := Lib.hid (HN.out (by rw [HE.out, decide_eq_false hp]; rfl))
    clear HT HN HE hp
    skip
    go_wp2
    go_roundw
    case rel => exact ⟨k + 1, by omega, by go_num, HI2, HB2, HQ2⟩
    case measure => simp [intOf]; omega
  ·obtain rfl : k = L.length := by omega
   have HF := Lib.hid (show r = false from by
    rw [HR.out, List.any_eq_false]
    intro q hq
    rw [HI.out q (by rw [List.take_length]; exact hq)]
    decide)
   go_wp2
   go_ret
   exact ⟨by rw [HF.out]; rfl, HB.out⟩
theorem absR_len (L : List Rel) (rp : List UInt8) (o : List Iss) (m : Mod) : (absR L rp o m).length ≤ o.length + 1 := by
 unfold absR
 split
 ·have := (putI_perm o (m.1, 13)).length_eq
  rw [this]
  simp
 ·omega
theorem absF_len (L : List Rel) (rp : List UInt8) : ∀ (q : List Mod) (o : List Iss), (q.foldl (absR L rp) o).length ≤ o.length + q.length
 | [], o => by simp
 | m :: q, o => by
   rw [List.foldl_cons]
   have h1 := absF_len L rp q (absR L rp o m)
   have h2 := absR_len L rp o m
   simp only [List.length_cons]
   omega
set_option maxRecDepth 100000 in
set_option maxHeartbeats 4000000 in
theorem absent_any (A0 : Option Addr) (c0 : Nat) (out : List Iss) (rp : List UInt8) (A : Option Addr) (c : Nat) (L : List RelA) (A2 : Option Addr) (c2 : Nat) (q : List Mod) (w : World) (hO : Sl w w.heap.size 2 encI A0 out) (hoc : out.length ≤ c0) (hA : Sl w w.heap.size 6 encR A L) (hq : Sl w w.heap.size 4 encM A2 q) (hl : L.length ≤ 1000000) (hoq : out.length + q.length ≤ 1000000) :
  Calls Tryz.prog 52 #[.slice A0 out.length c0, .string ⟨rp.toArray⟩, .slice A L.length c, .slice A2 q.length c2] w (RetI w (q.foldl (absR (L.map RelA.rel) rp) out)) := by
 have HA := Lib.hid hA
 have HO := Lib.hid hO
 have HQq := Lib.hid hq
 have HLn := Lib.hid (fun k => absF_len (L.map RelA.rel) rp (q.take k) out)
 have HSt := Lib.hid (fun k (hk : k < q.length) => show (q.take (k + 1)).foldl (absR (L.map RelA.rel) rp) out = absR (L.map RelA.rel) rp ((q.take k).foldl (absR (L.map RelA.rel) rp) out) q[k] by
  rw [List.take_succ_eq_append_getElem hk, List.foldl_append]
  rfl)
 have HFin := Lib.hid (show (q.take q.length).foldl (absR (L.map RelA.rel) rp) out = q.foldl (absR (L.map RelA.rel) rp) out by rw [List.take_length])
 obtain ⟨F, hF⟩ : ∃ F : Nat → List Iss, F = fun k => (q.take k).foldl (absR (L.map RelA.rel) rp) out := ⟨_, rfl⟩
 have HFe := Lib.hid (fun k => congrFun hF k)
 have HF0 := Lib.hid (show F 0 = out by rw [hF]; rfl)
 clear hA hO hq hF
 go_enter Tryz.func52, Tryz.ntmps52
 go_wp2
 go_loopw [0, 9] (fun v i wr => ∃ (k : Nat) (o : List Iss) (Av : Option Addr) (cv : Nat), k ≤ q.length ∧ i = .int .i64 (k : Nat) ∧ v = .slice Av o.length cv ∧ Hid (o = F k) ∧ o.length ≤ cv ∧ o.length ≤ out.length + k ∧ Hid (Sl wr wr.heap.size 2 encI Av o) ∧ Hid (Below w.heap.size w wr)) (fun _ i _ => q.length - (intOf i).toNat)
 case atStart => exact ⟨0, out, A0, c0, Nat.zero_le _, rfl, rfl, Lib.hid HF0.out.symm, hoc, Nat.le_refl _, HO, Lib.hid (Below.refl _ _)⟩
 case round =>
  obtain ⟨wo, hwo⟩ : ∃ wo, wo = wr := ⟨_, rfl⟩
  subst hwo
  obtain ⟨k, o, Av, cv, hk, rfl, rfl, HOF, hocv, hol, HSo, HB⟩ := hrel
  by_cases hlt : k < q.length
  ·have hlt' : (k : Int) < (q.length : Int) := by omega
   obtain ⟨b, off, hA1, hbB, g0, g1, g2, g3⟩ := ((HQq.out.below HB.out).more HB.out.size).mod hlt
   have HN := Lib.hid (show F (k + 1) = absR (L.map RelA.rel) rp o q[k] by rw [HFe.out (k + 1), HSt.out k hlt, HOF.out, HFe.out k])
   generalize q[k] = m at g0 g1 g2 g3 HN
   have HA1 := Lib.hid hA1
   subst hA1
   have HW2 := Lib.hid (show Below wo.heap.size wo ((wo.alloc (.cells #[.string ⟨m.1.toArray⟩, .int .i64 m.2.1, .int .i64 m.2.2.1, .int .i64 m.2.2.2] 26)).alloc (.cells #[.string ⟨m.1.toArray⟩, .int .i64 13] 88)) from ((Below.refl _ _).alloc (Nat.le_refl _) _).alloc (by simp) _)
   have V1 := Lib.hid ((Blk.new wo 26 #[.string ⟨m.1.toArray⟩, .int .i64 m.2.1, .int .i64 m.2.2.1, .int .i64 m.2.2.2]).keep ((Below.refl _ _).alloc (Nat.le_refl _) (.cells #[.string ⟨m.1.toArray⟩, .int .i64 13] 88)))
   have x0 := Blk.new (wo.alloc (.cells #[.string ⟨m.1.toArray⟩, .int .i64 m.2.1, .int .i64 m.2.2.1, .int .i64 m.2.2.2] 26)) 88 #[.string ⟨m.1.toArray⟩, .int .i64 13]
   rw [World.size_alloc] at x0
   have X1 := Lib.hid x0
   have HBx := Lib.hid (HB.out.trans (HW2.out.mono HB.out.size))
   have hu := modC (m := m) (Blk.new wo 26 #[.string ⟨m.1.toArray⟩, .int .i64 m.2.1, .int .i64 m.2.2.1, .int .i64 m.2.2.2])
   obtain ⟨u0', u1', u2', u3'⟩ := hu
   obtain ⟨u0, u1, u2, u3⟩ := modC (m := m) V1.out
   obtain ⟨y0, y1⟩ := issC X1.out
   have HE := Lib.hid (show absR (L.map RelA.rel) rp o m = if m.1 ≠ rp ∧ metP (L.map RelA.rel) m false = false ∧ (m.1, (13 : Int)) ∉ o then putI o (m.1, 13) else o from rfl)
   clear x0
   by_cases hp : m.1 = rp
   ·have HS1 := Lib.hid (show F (k + 1) = o from by rw [HN.out, HE.out, if_neg (fun h => h.1 hp)])
    have hpb : (m.1 == rp) = true := by simpa using hp
    have hpn : (m.1 != rp) = false := by rw [bne, hpb]; rfl
    clear HN HE hp
    go_wp2
    go_roundw
    case rel => exact ⟨k + 1, o, Av, cv, by omega, by go_num, rfl, Lib.hid HS1.out.symm, hocv, by omega, Lib.hid ((HSo.out.below HW2.out).more HW2.out.size), HBx⟩
    case measure => first | (simp [intOf]; done) | (simp [intOf]; omega)
   ·have hpb : (m.1 == rp) = false := beq_eq_false_iff_ne.2 hp
    have hpn : (m.1 != rp) = true := by rw [bne, hpb]; rfl
    have cM0 := fun W (hW : Below wo.heap.size wo W) => met_any A c L m false W ((HA.out.below (HB.out.trans (hW.mono HB.out.size))).more (Nat.le_trans HB.out.size hW.size)) hl
    generalize metP (L.map RelA.rel) m false = mt at cM0 HE
    have cM := Lib.hid cM0
    clear cM0
    go_wp2_with fail
    refine (cM.out _ HW2.out).mono ?_
    rintro e w2 ⟨rfl, hb2⟩
    have HX2 := Lib.hid (HW2.out.trans (hb2.mono HW2.out.size))
    have HB2 := Lib.hid (HB.out.trans (HX2.out.mono HB.out.size))
    have X2 := Lib.hid (X1.out.keep hb2)
    clear hb2 cM u0 u1 u2 u3 u0' u1' u2' u3' y0 y1 g0 g1 g2 g3
    obtain ⟨y0, y1⟩ := issC X2.out
    cases mt
    ·have cH := Lib.hid (has_any Av cv o (m.1, 13) w2 ((HSo.out.below HX2.out).more HX2.out.size) (by omega))
     obtain ⟨hb, hhb⟩ : ∃ hb, hb = decide ((m.1, (13 : Int)) ∈ o) := ⟨_, rfl⟩
     rw [← hhb] at cH
     go_wp2_with fail
     refine cH.out.mono ?_
     rintro e w3 ⟨rfl, hb3⟩
     have HX3 := Lib.hid (HX2.out.trans (hb3.mono HX2.out.size))
     have HB3 := Lib.hid (HB.out.trans (HX3.out.mono HB.out.size))
     have X3 := Lib.hid (X2.out.keep hb3)
     clear hb3 cH y0 y1
     obtain ⟨y0, y1⟩ := issC X3.out
     cases hb
     ·have HS1 := Lib.hid (show F (k + 1) = putI o (m.1, 13) from by rw [HN.out, HE.out, if_pos (by exact ⟨hp, by first | rfl | trivial, of_decide_eq_false hhb.symm⟩)])
      have hpl := (putI_perm o (m.1, 13)).length_eq
      rw [List.length_append, List.length_singleton] at hpl
      have hpl2 := Nat.le_of_eq hpl
      clear hpl
      have cP := Lib.hid (put_any Av cv o (m.1, 13) w3 ((HSo.out.below HX3.out).more HX3.out.size) hocv (by omega))
      clear HN HE hp hhb
      generalize putI o (m.1, 13) = o2 at cP HS1 hpl2
      go_wp2_with fail
      refine cP.out.mono ?_
      rintro e w4 ⟨A4, c4, rfl, hc4, hS4, hb4⟩
      have HS4 := Lib.hid hS4
      have HB4 := Lib.hid (HB3.out.trans (hb4.mono HB3.out.size))
      clear hb4 cP hS4
      go_wp2
      go_roundw
      case rel => exact ⟨k + 1, o2, A4, c4, by omega, by go_num, rfl, Lib.hid HS1.out.symm, hc4, by omega, HS4, HB4⟩
      case measure => first | (simp [intOf]; done) | (simp [intOf]; omega)
     ·have HS1 := Lib.hid (show F (k + 1) = o from by rw [HN.out, HE.out, if_neg (fun h => h.2.2 (of_decide_eq_true hhb.symm))])
      clear HN HE hp hhb
      go_wp2
      go_roundw
      case rel => exact ⟨k + 1, o, Av, cv, by omega, by go_num, rfl, Lib.hid HS1.out.symm, hocv, by omega, Lib.hid ((HSo.out.below HX3.out).more HX3.out.size), HB3⟩
      case measure => first | (simp [intOf]; done) | (simp [intOf]; omega)
    ·have HS1 := Lib.hid (show F (k + 1) = o from by rw [HN.out, HE.out, if_neg (fun h => by cases h.2.1)])
     clear HN HE hp
     go_wp2
     go_roundw
     case rel => exact ⟨k + 1, o, Av, cv, by omega, by go_num, rfl, Lib.hid HS1.out.symm, hocv, by omega, Lib.hid ((HSo.out.below HX2.out).more HX2.out.size), HB2⟩
     case measure => first | (simp [intOf]; done) | (simp [intOf]; omega)
  ·obtain rfl : k = q.length := by omega
   have HR := Lib.hid (show o = q.foldl (absR (L.map RelA.rel) rp) out by rw [HOF.out, HFe.out, HFin.out])
   go_wp2
   go_ret
   exact ⟨Av, cv, by rw [← HR.out]; rfl, by rw [← HR.out]; exact hocv, by rw [← HR.out]; exact HSo.out, HB.out⟩
end Go.Proofs.YthcgihgajdjfoaaGreatDoor
