/- Walks: the module that owns a path, by the document (ref44.Owner). -/
import Derived.Test.YtbbdoibmcmkmnaaGreatDoorOW
namespace Go.Proofs.YtbbdoibmcmkmnaaGreatDoor
open Go.RowKit

theorem ext0 (path : List UInt8) (n : Nat) : (({ data := path.toArray } : ByteArray).extract 0 n) = { data := (path.take n).toArray } := by
  rw [ByteArray.extract_mk]
  simp
theorem pre_len (p path : List UInt8) (h : (p ++ [47]).isPrefixOf path = true) : p.length < path.length := by
  have := (List.isPrefixOf_iff_prefix.1 h).length_le
  simp at this
  omega
theorem pre_iff (p path : List UInt8) (hll : p.length < path.length) : (p ++ [47]).isPrefixOf path = true ↔ path.take p.length = p ∧ (({ data := path.toArray } : ByteArray)[p.length].toNat : Int) = 47 := by
  have e : (({ data := path.toArray } : ByteArray)[p.length]) = path[p.length] := rfl
  rw [e, List.isPrefixOf_iff_prefix]
  constructor
  · rintro ⟨t, rfl⟩
    simp
  · rintro ⟨h1, h2⟩
    have h3 : path[p.length] = 47 := UInt8.toNat_inj.1 (by have : path[p.length].toNat = 47 := by omega
                                                           simpa using this)
    refine ⟨path.drop (p.length + 1), ?_⟩
    have h4 : path.drop p.length = 47 :: path.drop (p.length + 1) := by rw [List.drop_eq_getElem_cons hll, h3]
    rw [List.append_assoc, List.singleton_append, ← h4]
    conv => lhs; lhs; rw [← h1]
    exact List.take_append_drop _ _

set_option maxRecDepth 100000 in
set_option maxHeartbeats 4000000 in
theorem refOwner_any (A : Option Addr) (c : Nat) (l : List Mod) (path : List UInt8) (w : World) (hA : Sl w w.heap.size 4 encM A l) (hl : l.length ≤ 1099511627776) (hp : path.length ≤ 1099511627776) (hx : ∀ x ∈ l, x.1.length ≤ 1099511627776) :
    Calls Tryz.prog 28 #[.slice A l.length c, .string ⟨path.toArray⟩] w fun e w' => e = .returned (.tuple #[.int .i64 (ownK l path l.length).1, .string ⟨(ownK l path l.length).2.toArray⟩]) ∧ Below w.heap.size w w' := by
  have HA := Lib.hid hA
  have HX := Lib.hid hx
  clear hA hx
  go_enter Tryz.func28, Tryz.ntmps28
  go_wp2
  go_loopw [6, 7, 14] (fun u v i wr => ∃ (k : Nat) (q : Int × List UInt8), k ≤ l.length ∧ i = .int .i64 (k : Nat) ∧ u = .int .i64 q.1 ∧ v = .string ⟨q.2.toArray⟩ ∧ q = ownK l path k ∧ (-1 ≤ q.1 ∧ q.1 < (k : Nat) ∨ k = 0 ∧ q.1 = -1) ∧ Below w.heap.size w wr) (fun _ _ i _ => l.length - (intOf i).toNat)
  case atStart => exact ⟨0, _, Nat.zero_le _, rfl, rfl, rfl, rfl, ownK_range l path 0, Below.refl _ _⟩
  case round =>
    obtain ⟨k, q, hk, rfl, rfl, rfl, hqe, hq, hb⟩ := hrel
    have hbz := hb.size
    by_cases hlt : k < l.length
    · have hlt' : (k : Int) < (l.length : Int) := by omega
      have HN := Lib.hid ((show ownK l path (k + 1) = ostep l path q k by rw [hqe]; rfl).trans (ostep_eq l path q k hlt))
      obtain ⟨b, off, rfl, hbB, g0, g1, g2, g3⟩ := (HA.out.below hb).mod hlt
      have hpx := HX.out _ (List.getElem_mem hlt)
      clear hqe
      by_cases h0 : 0 ≤ q.1
      · obtain ⟨j, hj⟩ : ∃ j : Nat, q.1 = j := ⟨q.1.toNat, by omega⟩
        have hjk : j < k := by omega
        have hjl : j < l.length := by omega
        obtain ⟨b2, off2, e2, hbB2, r0, r1, r2, r3⟩ := (HA.out.below hb).mod hjl
        injection e2 with e2
        injection e2 with e3 e4
        subst e3 e4
        rw [hj, Int.toNat_natCast, List.getD_eq_getElem?_getD, List.getElem?_eq_getElem hjl] at HN
        simp only [Option.getD_some] at HN
        have hpj := HX.out _ (List.getElem_mem hjl)
        generalize hm : l[k] = m at g0 g1 g2 g3 HN hpx
        obtain ⟨p, m1, m2, m3⟩ := m
        generalize l[j] = m' at r0 r1 r2 r3 HN hpj
        obtain ⟨pj, n1, n2, n3⟩ := m'
        simp only at g0 g1 g2 g3 HN hpx r0 r1 r2 r3 hpj
        clear hm r1 r2 r3
        have r0a := cell_keep_alloc (.cells #[.string ⟨p.toArray⟩, .int .i64 m1, .int .i64 m2, .int .i64 m3] 25) r0
        have hjl' : (j : Int) < (l.length : Int) := by omega
        have HB := Lib.hid ((hb.alloc hbz (.cells #[.string ⟨p.toArray⟩, .int .i64 m1, .int .i64 m2, .int .i64 m3] 25)))
        rw [hj]
        have d0 : ¬ (j : Int) < 0 := by omega
        by_cases hle : p.length ≤ pj.length
        · have hle' : ¬ (pj.length : Int) < (p.length : Int) := by omega
          by_cases hpp : p = path
          · have HN' := Lib.hid (show ownK l path (k + 1) = q by rw [HN.out, if_pos ⟨by omega, hle⟩])
            subst hpp
            clear HN
            go_wp2
            go_roundw
            case rel => exact ⟨k + 1, q, by omega, by go_num, by rw [hj], rfl, HN'.out.symm, (by rcases hq with h | h <;> (left; omega)), HB.out⟩
            case measure => simp [intOf]; omega
          · have hpp' : (p == path) = false := beq_eq_false_iff_ne.2 hpp
            by_cases hll : p.length < path.length
            · have hll' : (p.length : Int) < (path.length : Int) := by omega
              by_cases htk : path.take p.length = p
              · have htk' : (({ data := path.toArray } : ByteArray).extract 0 p.length) = { data := p.toArray } := by rw [ext0, htk]
                cases hch : ((({ data := path.toArray } : ByteArray)[p.length].toNat : Int) == 47)
                · have HN' := Lib.hid (show ownK l path (k + 1) = q by rw [HN.out, if_pos ⟨by omega, hle⟩])
                  clear HN htk hpp
                  go_wp2
                  go_roundw
                  case rel => exact ⟨k + 1, q, by omega, by go_num, by rw [hj], rfl, HN'.out.symm, (by rcases hq with h | h <;> (left; omega)), HB.out⟩
                  case measure => simp [intOf]; omega
                · have HN' := Lib.hid (show ownK l path (k + 1) = q by rw [HN.out, if_pos ⟨by omega, hle⟩])
                  clear HN htk hpp
                  go_wp2
                  go_roundw
                  case rel => exact ⟨k + 1, q, by omega, by go_num, by rw [hj], rfl, HN'.out.symm, (by rcases hq with h | h <;> (left; omega)), HB.out⟩
                  case measure => simp [intOf]; omega
              · have htk' : ¬ (({ data := path.toArray } : ByteArray).extract 0 p.length) = { data := p.toArray } := fun h => htk (by rw [ext0] at h; simpa using h)
                have htl : ¬ (({ data := path.toArray } : ByteArray).extract 0 p.length).toList = p := fun h => htk (by rw [ext0] at h; simpa [go_sem] using h)
                clear htk'
                have HN' := Lib.hid (show ownK l path (k + 1) = q by rw [HN.out, if_pos ⟨by omega, hle⟩])
                clear HN htk hpp
                go_wp2
                go_roundw
                case rel => exact ⟨k + 1, q, by omega, by go_num, by rw [hj], rfl, HN'.out.symm, (by rcases hq with h | h <;> (left; omega)), HB.out⟩
                case measure => simp [intOf]; omega
            · have hll' : ¬ (p.length : Int) < (path.length : Int) := by omega
              have HN' := Lib.hid (show ownK l path (k + 1) = q by rw [HN.out, if_pos ⟨by omega, hle⟩])
              clear HN hpp
              go_wp2
              go_roundw
              case rel => exact ⟨k + 1, q, by omega, by go_num, by rw [hj], rfl, HN'.out.symm, (by rcases hq with h | h <;> (left; omega)), HB.out⟩
              case measure => simp [intOf]; omega
        · have hle' : (pj.length : Int) < (p.length : Int) := by omega
          by_cases hpp : p = path
          · have HN' := Lib.hid (show ownK l path (k + 1) = (((k : Nat) : Int), []) by rw [HN.out, if_neg (fun h => hle h.2), if_pos hpp])
            subst hpp
            clear HN
            go_wp2
            go_roundw
            case rel => exact ⟨k + 1, _, by omega, by go_num, by rw [HN'.out], by rw [HN'.out], rfl, by rw [HN'.out]; exact .inl ⟨by show (-1 : Int) ≤ ((k : Nat) : Int); omega, by show ((k : Nat) : Int) < ((k + 1 : Nat) : Int); omega⟩, HB.out⟩
            case measure => simp [intOf]; omega
          · have hpp' : (p == path) = false := beq_eq_false_iff_ne.2 hpp
            by_cases hll : p.length < path.length
            · have hll' : (p.length : Int) < (path.length : Int) := by omega
              by_cases htk : path.take p.length = p
              · have htk' : (({ data := path.toArray } : ByteArray).extract 0 p.length) = { data := p.toArray } := by rw [ext0, htk]
                cases hch : ((({ data := path.toArray } : ByteArray)[p.length].toNat : Int) == 47)
                · have HN' := Lib.hid (show ownK l path (k + 1) = q by rw [HN.out, if_neg (fun h => hle h.2), if_neg hpp, if_neg (fun h => by have := (pre_iff p path hll).1 h; simp [this.2] at hch)])
                  clear HN htk hpp
                  go_wp2
                  go_roundw
                  case rel => exact ⟨k + 1, q, by omega, by go_num, by rw [hj], rfl, HN'.out.symm, (by rcases hq with h | h <;> (left; omega)), HB.out⟩
                  case measure => simp [intOf]; omega
                · have HN' := Lib.hid (show ownK l path (k + 1) = (((k : Nat) : Int), path.drop (p.length + 1)) by rw [HN.out, if_neg (fun h => hle h.2), if_neg hpp, if_pos ((pre_iff p path hll).2 ⟨htk, by simpa using hch⟩)])
                  have hlen' : (p.length : Int) + 1 ≤ (path.length : Int) := by omega
                  have hex : (⟨path.toArray⟩ : ByteArray).extract (p.length + 1) path.length = ⟨(path.drop (p.length + 1)).toArray⟩ := by
                    rw [ByteArray.extract_mk]
                    congr 1
                    simp
                    try rw [List.take_of_length_le (by simp)]
                  clear HN htk hpp
                  go_wp2
                  go_quiet (fail)
                  go_wp2
                  go_roundw
                  case rel => exact ⟨k + 1, _, by omega, by go_num, by rw [HN'.out], by first | (rw [HN'.out]; exact congrArg Value.string hex) | rw [HN'.out, hex] | rw [HN'.out], rfl, by rw [HN'.out]; exact .inl ⟨by show (-1 : Int) ≤ ((k : Nat) : Int); omega, by show ((k : Nat) : Int) < ((k + 1 : Nat) : Int); omega⟩, by first | exact HB.out.drewN _ | exact HB.out⟩
                  case measure => simp [intOf]; omega
              · have htk' : ¬ (({ data := path.toArray } : ByteArray).extract 0 p.length) = { data := p.toArray } := fun h => htk (by rw [ext0] at h; simpa using h)
                have htl : ¬ (({ data := path.toArray } : ByteArray).extract 0 p.length).toList = p := fun h => htk (by rw [ext0] at h; simpa [go_sem] using h)
                clear htk'
                have HN' := Lib.hid (show ownK l path (k + 1) = q by rw [HN.out, if_neg (fun h => hle h.2), if_neg hpp, if_neg (fun h => htk ((pre_iff p path hll).1 h).1)])
                clear HN htk hpp
                go_wp2
                go_roundw
                case rel => exact ⟨k + 1, q, by omega, by go_num, by rw [hj], rfl, HN'.out.symm, (by rcases hq with h | h <;> (left; omega)), HB.out⟩
                case measure => simp [intOf]; omega
            · have hll' : ¬ (p.length : Int) < (path.length : Int) := by omega
              have HN' := Lib.hid (show ownK l path (k + 1) = q by rw [HN.out, if_neg (fun h => hle h.2), if_neg hpp, if_neg (fun h => hll (pre_len p path h))])
              clear HN hpp
              go_wp2
              go_roundw
              case rel => exact ⟨k + 1, q, by omega, by go_num, by rw [hj], rfl, HN'.out.symm, (by rcases hq with h | h <;> (left; omega)), HB.out⟩
              case measure => simp [intOf]; omega
      · have hqm : q.1 = -1 := by omega
        generalize hm : l[k] = m at g0 g1 g2 g3 HN hpx
        obtain ⟨p, m1, m2, m3⟩ := m
        simp only at g0 g1 g2 g3 HN hpx
        clear hm
        have d0 : q.1 < 0 := by omega
        have HB := Lib.hid ((hb.alloc hbz (.cells #[.string ⟨p.toArray⟩, .int .i64 m1, .int .i64 m2, .int .i64 m3] 25)))
        by_cases hpp : p = path
        · have HN' := Lib.hid (show ownK l path (k + 1) = (((k : Nat) : Int), []) by rw [HN.out, if_neg (fun h => h0 h.1), if_pos hpp])
          subst hpp
          clear HN
          go_wp2
          go_roundw
          case rel => exact ⟨k + 1, _, by omega, by go_num, by rw [HN'.out], by rw [HN'.out], rfl, by rw [HN'.out]; exact .inl ⟨by show (-1 : Int) ≤ ((k : Nat) : Int); omega, by show ((k : Nat) : Int) < ((k + 1 : Nat) : Int); omega⟩, HB.out⟩
          case measure => simp [intOf]; omega
        · have hpp' : (p == path) = false := beq_eq_false_iff_ne.2 hpp
          by_cases hll : p.length < path.length
          · have hll' : (p.length : Int) < (path.length : Int) := by omega
            by_cases htk : path.take p.length = p
            · have htk' : (({ data := path.toArray } : ByteArray).extract 0 p.length) = { data := p.toArray } := by rw [ext0, htk]
              cases hch : ((({ data := path.toArray } : ByteArray)[p.length].toNat : Int) == 47)
              · have HN' := Lib.hid (show ownK l path (k + 1) = q by rw [HN.out, if_neg (fun h => h0 h.1), if_neg hpp, if_neg (fun h => by have := (pre_iff p path hll).1 h; simp [this.2] at hch)])
                clear HN htk hpp
                go_wp2
                go_roundw
                case rel => exact ⟨k + 1, q, by omega, by go_num, by first | rfl | rw [hqm], rfl, HN'.out.symm, (by rcases hq with h | h <;> (left; omega)), HB.out⟩
                case measure => simp [intOf]; omega
              · have HN' := Lib.hid (show ownK l path (k + 1) = (((k : Nat) : Int), path.drop (p.length + 1)) by rw [HN.out, if_neg (fun h => h0 h.1), if_neg hpp, if_pos ((pre_iff p path hll).2 ⟨htk, by simpa using hch⟩)])
                have hlen' : (p.length : Int) + 1 ≤ (path.length : Int) := by omega
                have hex : (⟨path.toArray⟩ : ByteArray).extract (p.length + 1) path.length = ⟨(path.drop (p.length + 1)).toArray⟩ := by
                  rw [ByteArray.extract_mk]
                  congr 1
                  simp
                  try rw [List.take_of_length_le (by simp)]
                clear HN htk hpp
                go_wp2
                go_quiet (fail)
                go_wp2
                go_roundw
                case rel => exact ⟨k + 1, _, by omega, by go_num, by rw [HN'.out], by first | (rw [HN'.out]; exact congrArg Value.string hex) | rw [HN'.out, hex] | rw [HN'.out], rfl, by rw [HN'.out]; exact .inl ⟨by show (-1 : Int) ≤ ((k : Nat) : Int); omega, by show ((k : Nat) : Int) < ((k + 1 : Nat) : Int); omega⟩, by first | exact HB.out.drewN _ | exact HB.out⟩
                case measure => simp [intOf]; omega
            · have htk' : ¬ (({ data := path.toArray } : ByteArray).extract 0 p.length) = { data := p.toArray } := fun h => htk (by rw [ext0] at h; simpa using h)
              have htl : ¬ (({ data := path.toArray } : ByteArray).extract 0 p.length).toList = p := fun h => htk (by rw [ext0] at h; simpa [go_sem] using h)
              clear htk'
              have HN' := Lib.hid (show ownK l path (k + 1) = q by rw [HN.out, if_neg (fun h => h0 h.1), if_neg hpp, if_neg (fun h => htk ((pre_iff p path hll).1 h).1)])
              clear HN htk hpp
              go_wp2
              go_roundw
              case rel => exact ⟨k + 1, q, by omega, by go_num, by first | rfl | rw [hqm], rfl, HN'.out.symm, (by rcases hq with h | h <;> (left; omega)), HB.out⟩
              case measure => simp [intOf]; omega
          · have hll' : ¬ (p.length : Int) < (path.length : Int) := by omega
            have HN' := Lib.hid (show ownK l path (k + 1) = q by rw [HN.out, if_neg (fun h => h0 h.1), if_neg hpp, if_neg (fun h => hll (pre_len p path h))])
            clear HN hpp
            go_wp2
            go_roundw
            case rel => exact ⟨k + 1, q, by omega, by go_num, by first | rfl | rw [hqm], rfl, HN'.out.symm, (by rcases hq with h | h <;> (left; omega)), HB.out⟩
            case measure => simp [intOf]; omega
    · obtain rfl : k = l.length := by omega
      subst hqe
      go_wp2
      refine bodyPost_ret (v := .tuple #[.int .i64 (ownK l path l.length).1, .string ⟨(ownK l path l.length).2.toArray⟩]) (by simp [results, Tryz.results28, go_sem]) rfl ?_
      exact ⟨rfl, hb⟩
end Go.Proofs.YtbbdoibmcmkmnaaGreatDoor
