/- Walk: the law on the owners of paths. -/
import Derived.Test.YtbbdoibmcmkmnaaGreatDoorRO
import Derived.Test.YtbbdoibmcmkmnaaGreatDoorAL
namespace Go.Proofs.YtbbdoibmcmkmnaaGreatDoor
open Go.RowKit Go.Sort

set_option maxRecDepth 100000 in
set_option maxHeartbeats 4000000 in
theorem owner_walk (A : Option Addr) (c : Nat) (l : List Mod) (path : List UInt8) (w : World) (hA : Sl w w.heap.size 4 encM A l) (hl : l.length ≤ 1048576) (hp : path.length ≤ 1048576) (hx : ∀ x ∈ l, x.1.length ≤ 1048576) (hG : Glob w) :
    Calls Tryz.prog 9 #[.slice A l.length c, .string ⟨path.toArray⟩] w fun e w' => e = .returned (.bool true) ∧ Below w.heap.size w w' := by
  have HA := Lib.hid hA
  have HG := Lib.hid hG
  have HX := Lib.hid hx
  have ca := Lib.hid (fun W (hW : Below w.heap.size w W) => alive_any W (HG.out.keep hW))
  clear hA hG hx
  by_cases h30 : 30 < l.length
  · have d0 : decide ((30 : Int) < (l.length : Int)) = true := decide_eq_true (by omega)
    go_enter Tryz.func9, Tryz.ntmps9
    go_wp2_with fail
    refine (ca.out _ (Below.refl _ _)).mono ?_
    rintro e w1 ⟨rfl, hb⟩
    go_wp2
    go_ret
    exact ⟨rfl, hb⟩
  have d0 : decide ((30 : Int) < (l.length : Int)) = false := decide_eq_false (by omega)
  have cO := Lib.hid (fun W (hW : Below w.heap.size w W) => Owner_any A c l path W ((HA.out.below hW).more hW.size) (by omega) (by omega) (fun x hx' => by have := HX.out x hx'; omega))
  have cR := Lib.hid (fun W (hW : Below w.heap.size w W) => refOwner_any A c l path W ((HA.out.below hW).more hW.size) (by omega) (by omega) (fun x hx' => by have := HX.out x hx'; omega))
  have hr := ownK_range l path l.length
  have hw := ownK_law l path l.length (Nat.le_refl _)
  generalize ownK l path l.length = q at cO cR hr hw
  obtain ⟨i, s⟩ := q
  simp only at cO cR hr hw
  have hge : ¬ (l.length : Int) ≤ i := by omega
  rcases hw with ⟨rfl, rfl⟩ | ⟨hi, hw⟩
  · clear hr
    go_enter Tryz.func9, Tryz.ntmps9
    go_wp2_with fail
    refine (cO.out _ (Below.refl _ _)).mono ?_
    rintro e w1 ⟨rfl, hb1⟩
    have HB1 := Lib.hid hb1
    clear hb1
    go_wp2_with fail
    refine (cR.out _ HB1.out).mono ?_
    rintro e w2 ⟨rfl, hb2⟩
    have HB2 := Lib.hid (HB1.out.trans (hb2.mono HB1.out.size))
    clear hb2
    go_wp2_with fail
    refine (ca.out _ HB2.out).mono ?_
    rintro e w3 ⟨rfl, hb3⟩
    go_wp2
    go_ret
    exact ⟨by first | rfl | simp, HB2.out.trans (hb3.mono HB2.out.size)⟩
  · obtain ⟨j, rfl⟩ : ∃ j : Nat, i = (j : Int) := ⟨i.toNat, by omega⟩
    have hjl : j < l.length := by omega
    have hjl' : (j : Int) < (l.length : Int) := by omega
    have hj0 : ¬ (j : Int) < 0 := by omega
    rw [Int.toNat_natCast, List.getD_eq_getElem?_getD, List.getElem?_eq_getElem hjl] at hw
    simp only [Option.getD_some] at hw
    clear hr hge hi
    have hge : ¬ (l.length : Int) ≤ (j : Int) := by omega
    have HM : Hid (∀ W, Below w.heap.size w W → ∃ b off, A = some ⟨b, off, none⟩ ∧ W.cell? ⟨b, off + j * 4, none⟩ = some (.string ⟨(l[j]).1.toArray⟩)) := Lib.hid fun W hW => by
      obtain ⟨b, off, h1, _, h2, _⟩ := (HA.out.below hW).mod hjl
      exact ⟨b, off, h1, h2⟩
    have hpl := HX.out _ (List.getElem_mem hjl)
    generalize (l[j]).1 = p at hw HM hpl
    have HW := Lib.hid hw
    clear hw
    by_cases hpp : p = path
    · have hs : s = [] := by
        rcases HW.out with h | h
        · exact h.2
        · have := congrArg List.length h
          rw [hpp] at this
          simp at this
      subst hs hpp
      go_enter Tryz.func9, Tryz.ntmps9
      go_wp2_with fail
      refine (cO.out _ (Below.refl _ _)).mono ?_
      rintro e w1 ⟨rfl, hb1⟩
      have HB1 := Lib.hid hb1
      clear hb1
      go_wp2_with fail
      refine (cR.out _ HB1.out).mono ?_
      rintro e w2 ⟨rfl, hb2⟩
      have HB2 := Lib.hid (HB1.out.trans (hb2.mono HB1.out.size))
      clear hb2
      obtain ⟨b, off, rfl, g0⟩ := HM.out w2 HB2.out
      go_wp2_with fail
      refine (ca.out _ HB2.out).mono ?_
      rintro e w3 ⟨rfl, hb3⟩
      go_wp2
      go_ret
      exact ⟨by first | rfl | simp, HB2.out.trans (hb3.mono HB2.out.size)⟩
    · have hs : p ++ [47] ++ s = path := by
        rcases HW.out with h | h
        · exact absurd h.1 hpp
        · exact h
      have hpp' : (p == path) = false := beq_eq_false_iff_ne.2 hpp
      have hle : p.length + 1 + s.length ≤ 1048576 := by
        have := congrArg List.length hs
        simp at this
        omega
      have n1 : ¬ 9223372036854775807 < p.length + 1 := by omega
      have n2 : ¬ 9223372036854775807 < p.length + 1 + s.length := by omega
      have e1 : (({ data := p.toArray } : ByteArray) ++ { data := #[47] } ++ { data := s.toArray }) = { data := path.toArray } := by
        rw [show ({ data := #[47] } : ByteArray) = ⟨([47] : List UInt8).toArray⟩ from rfl, ByteArray.mk_append_mk, ByteArray.mk_append_mk, hs]
      clear hpp hs hle
      go_enter Tryz.func9, Tryz.ntmps9
      go_wp2_with fail
      refine (cO.out _ (Below.refl _ _)).mono ?_
      rintro e w1 ⟨rfl, hb1⟩
      have HB1 := Lib.hid hb1
      clear hb1
      go_wp2_with fail
      refine (cR.out _ HB1.out).mono ?_
      rintro e w2 ⟨rfl, hb2⟩
      have HB2 := Lib.hid (HB1.out.trans (hb2.mono HB1.out.size))
      clear hb2
      obtain ⟨b, off, rfl, g0⟩ := HM.out w2 HB2.out
      go_wp2_with fail
      refine (ca.out _ HB2.out).mono ?_
      rintro e w3 ⟨rfl, hb3⟩
      go_wp2
      go_ret
      exact ⟨by first | rfl | simp, HB2.out.trans (hb3.mono HB2.out.size)⟩
end Go.Proofs.YtbbdoibmcmkmnaaGreatDoor
