/- Walks: the module that owns a path (manifest.Owner). -/
import Derived.Test.YtbbdoibmcmkmnaaGreatDoorPW
import Derived.Test.YtbbdoibmcmkmnaaGreatDoorWJ
import Derived.Test.YtbbdoibmcmkmnaaGreatDoorShelf
import Derived.Test.YtbbdoibmcmkmnaaGreatDoorMem3
import Derived.Test.YtbbdoibmcmkmnaaGreatDoorWM
namespace Go.Proofs.YtbbdoibmcmkmnaaGreatDoor
open Go.RowKit

theorem ostep_eq (l : List Mod) (path : List UInt8) (q : Int × List UInt8) (k : Nat) (h : k < l.length) : ostep l path q k =
    if 0 ≤ q.1 ∧ (l[k]).1.length ≤ (l.getD q.1.toNat default).1.length then q else if (l[k]).1 = path then ((k : Nat), []) else if ((l[k]).1 ++ [47]).isPrefixOf path = true then ((k : Nat), path.drop ((l[k]).1.length + 1)) else q := by
  unfold ostep
  rw [List.getD_eq_getElem?_getD, List.getElem?_eq_getElem h]
  rfl
theorem drewN_below {B : Nat} {a w : World} (h : Below B a w) (n : Nat) : Below B a (w.drewN n) := ⟨h.os, h.tape, h.output, h.size, h.block⟩
set_option maxRecDepth 100000 in
set_option maxHeartbeats 4000000 in
theorem Owner_any (A : Option Addr) (c : Nat) (l : List Mod) (path : List UInt8) (w : World) (hA : Sl w w.heap.size 4 encM A l) (hl : l.length ≤ 1099511627776) (hp : path.length ≤ 1099511627776) (hx : ∀ x ∈ l, x.1.length ≤ 1099511627776) :
    Calls Tryz.prog 27 #[.slice A l.length c, .string ⟨path.toArray⟩] w fun e w' => e = .returned (.tuple #[.int .i64 (ownK l path l.length).1, .string ⟨(ownK l path l.length).2.toArray⟩]) ∧ Below w.heap.size w w' := by
  have HA := Lib.hid hA
  have HX := Lib.hid hx
  clear hA hx
  go_enter Tryz.func27, Tryz.ntmps27
  go_wp2
  go_loopw [6, 7, 12] (fun u v i wr => ∃ (k : Nat) (q : Int × List UInt8), k ≤ l.length ∧ i = .int .i64 (k : Nat) ∧ u = .int .i64 q.1 ∧ v = .string ⟨q.2.toArray⟩ ∧ q = ownK l path k ∧ (-1 ≤ q.1 ∧ q.1 < (k : Nat) ∨ k = 0 ∧ q.1 = -1) ∧ Below w.heap.size w wr) (fun _ _ i _ => l.length - (intOf i).toNat)
  case atStart => exact ⟨0, _, Nat.zero_le _, rfl, rfl, rfl, rfl, ownK_range l path 0, Below.refl _ _⟩
  case round =>
    obtain ⟨k, q, hk, rfl, rfl, rfl, hqe, hq, hb⟩ := hrel
    have hbz := hb.size
    by_cases hlt : k < l.length
    · have hlt' : (k : Int) < (l.length : Int) := by omega
      have HN := Lib.hid ((show ownK l path (k + 1) = ostep l path q k by rw [hqe]; rfl).trans (ostep_eq l path q k hlt))
      obtain ⟨b, off, rfl, hbB, g0, g1, g2, g3⟩ := (HA.out.below hb).mod hlt
      have hpx := HX.out _ (List.getElem_mem hlt)
      clear hqe
      by_cases h0 : 0 ≤ q.1
      · obtain ⟨j, hj⟩ : ∃ j : Nat, q.1 = j := ⟨q.1.toNat, by omega⟩
        have hjk : j < k := by omega
        have hjl : j < l.length := by omega
        obtain ⟨b2, off2, e2, hbB2, r0, r1, r2, r3⟩ := (HA.out.below hb).mod hjl
        injection e2 with e2
        injection e2 with e3 e4
        subst e3 e4
        rw [hj, Int.toNat_natCast, List.getD_eq_getElem?_getD, List.getElem?_eq_getElem hjl] at HN
        simp only [Option.getD_some] at HN
        have hpj := HX.out _ (List.getElem_mem hjl)
        generalize hm : l[k] = m at g0 g1 g2 g3 HN hpx
        obtain ⟨p, m1, m2, m3⟩ := m
        generalize l[j] = m' at r0 r1 r2 r3 HN hpj
        obtain ⟨pj, n1, n2, n3⟩ := m'
        simp only at g0 g1 g2 g3 HN hpx r0 r1 r2 r3 hpj
        clear hm r1 r2 r3
        have r0a := cell_keep_alloc (.cells #[.string ⟨p.toArray⟩, .int .i64 m1, .int .i64 m2, .int .i64 m3] 25) r0
        have hjl' : (j : Int) < (l.length : Int) := by omega
        have HB := Lib.hid ((hb.alloc hbz (.cells #[.string ⟨p.toArray⟩, .int .i64 m1, .int .i64 m2, .int .i64 m3] 25)))
        rw [hj]
        have d0 : decide ((0 : Int) ≤ (j : Int)) = true := decide_eq_true (by omega)
        by_cases hle : p.length ≤ pj.length
        · have hle' : (p.length : Int) ≤ (pj.length : Int) := by omega
          have d1 : decide ((p.length : Int) ≤ (pj.length : Int)) = true := decide_eq_true hle'
          have HN' := Lib.hid (show ownK l path (k + 1) = q by rw [HN.out, if_pos ⟨by omega, hle⟩])
          clear HN
          go_wp2
          go_quiet (fail)
          go_wp2
          go_roundw
          case rel => exact ⟨k + 1, q, by omega, by go_num, by rw [hj], rfl, HN'.out.symm, .inl ⟨by omega, by omega⟩, drewN_below HB.out _⟩
          case measure => simp [intOf]; omega
        · have d1 : decide ((p.length : Int) ≤ (pj.length : Int)) = false := decide_eq_false (by omega)
          have hst := fun (X : Int × List UInt8) => X
          clear hst
          go_wp2
          go_quiet (fail)
          by_cases hpp : p = path
          · have HN' := Lib.hid (show ownK l path (k + 1) = (((k : Nat) : Int), ([] : List UInt8)) by rw [HN.out, if_neg (fun h => by omega)]; rw [if_pos hpp])
            subst hpp
            go_wp2
            go_roundw
            case rel => exact ⟨k + 1, _, by omega, by go_num, by rw [HN'.out], by rw [HN'.out], rfl, by rw [HN'.out]; exact .inl ⟨by show (-1 : Int) ≤ ((k : Nat) : Int); omega, by show ((k : Nat) : Int) < ((k + 1 : Nat) : Int); omega⟩, drewN_below HB.out _⟩
            case measure => simp [intOf]; omega
          · have hpp' : (p == path) = false := beq_eq_false_iff_ne.2 hpp
            have hnn : ¬ 9223372036854775807 < p.length + 1 := by omega
            have hpre := fun W => Tryz.strings_HasPrefix ⟨path.toArray⟩ ⟨(p ++ ([47] : List UInt8)).toArray⟩ W
            cases hpf : (p ++ [47]).isPrefixOf path
            · have HN' := Lib.hid (show ownK l path (k + 1) = q by rw [HN.out, if_neg (fun h => by omega), if_neg hpp, if_neg (by rw [hpf]; simp)])
              have cp := Lib.hid (fun W => (hpre W).mono (R' := fun e w' => e = .returned (.bool false) ∧ w' = W) (fun e w' h => by rw [show Lib.hasPrefix (⟨path.toArray⟩ : ByteArray).data.toList (⟨(p ++ ([47] : List UInt8)).toArray⟩ : ByteArray).data.toList = false from hpf] at h; exact h))
              clear hpre hpf hpp
              go_wp2_with fail
              rw [show (({ data := p.toArray } : ByteArray) ++ { data := #[47] }) = ⟨(p ++ ([47] : List UInt8)).toArray⟩ by rw [show ({ data := #[47] } : ByteArray) = ⟨([47] : List UInt8).toArray⟩ from rfl, ByteArray.mk_append_mk]]
              refine (cp.out _).mono ?_
              rintro e w1 ⟨rfl, rfl⟩
              go_wp2
              go_roundw
              case rel => exact ⟨k + 1, q, by omega, by go_num, (by first | rfl | rw [hj] | rw [hqm]), rfl, HN'.out.symm, (by rcases hq with h | h <;> (left; omega)), drewN_below HB.out _⟩
              case measure => simp [intOf]; omega
            · have HN' := Lib.hid (show ownK l path (k + 1) = (((k : Nat) : Int), path.drop (p.length + 1)) by rw [HN.out, if_neg (fun h => by omega), if_neg hpp, if_pos hpf])
              have hlen : p.length + 1 ≤ path.length := by
                have := (List.isPrefixOf_iff_prefix.1 hpf).length_le
                simpa using this
              have hlen' : (p.length : Int) + 1 ≤ (path.length : Int) := by omega
              have hex : (⟨path.toArray⟩ : ByteArray).extract (p.length + 1) path.length = ⟨(path.drop (p.length + 1)).toArray⟩ := by
                rw [ByteArray.extract_mk]
                congr 1
                simp
                try rw [List.take_of_length_le (by simp)]
              have cp := Lib.hid (fun W => (hpre W).mono (R' := fun e w' => e = .returned (.bool true) ∧ w' = W) (fun e w' h => by rw [show Lib.hasPrefix (⟨path.toArray⟩ : ByteArray).data.toList (⟨(p ++ ([47] : List UInt8)).toArray⟩ : ByteArray).data.toList = true from hpf] at h; exact h))
              clear hpre hpf hpp
              go_wp2_with fail
              rw [show (({ data := p.toArray } : ByteArray) ++ { data := #[47] }) = ⟨(p ++ ([47] : List UInt8)).toArray⟩ by rw [show ({ data := #[47] } : ByteArray) = ⟨([47] : List UInt8).toArray⟩ from rfl, ByteArray.mk_append_mk]]
              refine (cp.out _).mono ?_
              rintro e w1 ⟨rfl, rfl⟩
              go_wp2
              go_quiet (fail)
              go_wp2
              go_roundw
              case rel => exact ⟨k + 1, _, by omega, by go_num, by rw [HN'.out], by rw [HN'.out]; first | done | exact congrArg Value.string hex, rfl, by rw [HN'.out]; exact .inl ⟨by show (-1 : Int) ≤ ((k : Nat) : Int); omega, by show ((k : Nat) : Int) < ((k + 1 : Nat) : Int); omega⟩, drewN_below HB.out _⟩
              case measure => simp [intOf]; omega
      · have hqm : q.1 = -1 := by omega
        generalize hm : l[k] = m at g0 g1 g2 g3 HN hpx
        obtain ⟨p, m1, m2, m3⟩ := m
        simp only at g0 g1 g2 g3 HN hpx
        clear hm
        have d0 : decide ((0 : Int) ≤ q.1) = false := decide_eq_false h0
        have HB := Lib.hid ((hb.alloc hbz (.cells #[.string ⟨p.toArray⟩, .int .i64 m1, .int .i64 m2, .int .i64 m3] 25)))
        go_wp2
        go_quiet (fail)
        by_cases hpp : p = path
        · have HN' := Lib.hid (show ownK l path (k + 1) = (((k : Nat) : Int), ([] : List UInt8)) by rw [HN.out, if_neg (fun h => by omega)]; rw [if_pos hpp])
          subst hpp
          go_wp2
          go_roundw
          case rel => exact ⟨k + 1, _, by omega, by go_num, by rw [HN'.out], by rw [HN'.out], rfl, by rw [HN'.out]; exact .inl ⟨by show (-1 : Int) ≤ ((k : Nat) : Int); omega, by show ((k : Nat) : Int) < ((k + 1 : Nat) : Int); omega⟩, drewN_below HB.out _⟩
          case measure => simp [intOf]; omega
        · have hpp' : (p == path) = false := beq_eq_false_iff_ne.2 hpp
          have hnn : ¬ 9223372036854775807 < p.length + 1 := by omega
          have hpre := fun W => Tryz.strings_HasPrefix ⟨path.toArray⟩ ⟨(p ++ ([47] : List UInt8)).toArray⟩ W
          cases hpf : (p ++ [47]).isPrefixOf path
          · have HN' := Lib.hid (show ownK l path (k + 1) = q by rw [HN.out, if_neg (fun h => by omega), if_neg hpp, if_neg (by rw [hpf]; simp)])
            have cp := Lib.hid (fun W => (hpre W).mono (R' := fun e w' => e = .returned (.bool false) ∧ w' = W) (fun e w' h => by rw [show Lib.hasPrefix (⟨path.toArray⟩ : ByteArray).data.toList (⟨(p ++ ([47] : List UInt8)).toArray⟩ : ByteArray).data.toList = false from hpf] at h; exact h))
            clear hpre hpf hpp
            go_wp2_with fail
            rw [show (({ data := p.toArray } : ByteArray) ++ { data := #[47] }) = ⟨(p ++ ([47] : List UInt8)).toArray⟩ by rw [show ({ data := #[47] } : ByteArray) = ⟨([47] : List UInt8).toArray⟩ from rfl, ByteArray.mk_append_mk]]
            refine (cp.out _).mono ?_
            rintro e w1 ⟨rfl, rfl⟩
            go_wp2
            go_roundw
            case rel => exact ⟨k + 1, q, by omega, by go_num, (by first | rfl | rw [hj] | rw [hqm]), rfl, HN'.out.symm, (by rcases hq with h | h <;> (left; omega)), drewN_below HB.out _⟩
            case measure => simp [intOf]; omega
          · have HN' := Lib.hid (show ownK l path (k + 1) = (((k : Nat) : Int), path.drop (p.length + 1)) by rw [HN.out, if_neg (fun h => by omega), if_neg hpp, if_pos hpf])
            have hlen : p.length + 1 ≤ path.length := by
              have := (List.isPrefixOf_iff_prefix.1 hpf).length_le
              simpa using this
            have hlen' : (p.length : Int) + 1 ≤ (path.length : Int) := by omega
            have hex : (⟨path.toArray⟩ : ByteArray).extract (p.length + 1) path.length = ⟨(path.drop (p.length + 1)).toArray⟩ := by
              rw [ByteArray.extract_mk]
              congr 1
              simp
              try rw [List.take_of_length_le (by simp)]
            have cp := Lib.hid (fun W => (hpre W).mono (R' := fun e w' => e = .returned (.bool true) ∧ w' = W) (fun e w' h => by rw [show Lib.hasPrefix (⟨path.toArray⟩ : ByteArray).data.toList (⟨(p ++ ([47] : List UInt8)).toArray⟩ : ByteArray).data.toList = true from hpf] at h; exact h))
            clear hpre hpf hpp
            go_wp2_with fail
            rw [show (({ data := p.toArray } : ByteArray) ++ { data := #[47] }) = ⟨(p ++ ([47] : List UInt8)).toArray⟩ by rw [show ({ data := #[47] } : ByteArray) = ⟨([47] : List UInt8).toArray⟩ from rfl, ByteArray.mk_append_mk]]
            refine (cp.out _).mono ?_
            rintro e w1 ⟨rfl, rfl⟩
            go_wp2
            go_quiet (fail)
            go_wp2
            go_roundw
            case rel => exact ⟨k + 1, _, by omega, by go_num, by rw [HN'.out], by rw [HN'.out]; first | done | exact congrArg Value.string hex, rfl, by rw [HN'.out]; exact .inl ⟨by show (-1 : Int) ≤ ((k : Nat) : Int); omega, by show ((k : Nat) : Int) < ((k + 1 : Nat) : Int); omega⟩, drewN_below HB.out _⟩
            case measure => simp [intOf]; omega
    · obtain rfl : k = l.length := by omega
      subst hqe
      go_wp2
      refine bodyPost_ret (v := .tuple #[.int .i64 (ownK l path l.length).1, .string ⟨(ownK l path l.length).2.toArray⟩]) (by simp [results, Tryz.results27, go_sem]) rfl ?_
      exact ⟨rfl, hb⟩
end Go.Proofs.YtbbdoibmcmkmnaaGreatDoor
