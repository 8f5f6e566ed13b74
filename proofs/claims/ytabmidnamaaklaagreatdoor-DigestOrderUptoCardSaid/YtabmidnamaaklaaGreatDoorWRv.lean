/- Walks: a release turned round (law47.reversed). -/
import Derived.Test.YtabmidnamaaklaaGreatDoorWX
namespace Go.Proofs.YtabmidnamaaklaaGreatDoor
open Go.RowKit Go.Sort

theorem elSrcs : ElT Tryz.prog 38 56 2 32 := ElT.mk_ (z := .agg #[.string ByteArray.empty, .string ByteArray.empty]) Tryz.underlying38 (by kernel_rfl) rfl (by decide)
theorem drop_rev {α : Type} {enc : α → List Value} (l : List α) (j : Nat) (h : j < l.length) : (l.drop j).reverse.flatMap enc = (l.drop (j + 1)).reverse.flatMap enc ++ enc l[j] := by
  rw [List.drop_eq_getElem_cons h, List.reverse_cons, List.flatMap_append, List.flatMap_singleton]
theorem Sl.srcT {w : World} {B : Nat} {A : Option Addr} {l : List Src2} (h : Sl w B 2 encT A l) {i : Nat} (hi : i < l.length) :
    ∃ b off, A = some ⟨b, off, none⟩ ∧ b < B ∧ w.cell? ⟨b, off + i * 2, none⟩ = some (.string ⟨(l[i]).1.toArray⟩) ∧ w.cell? ⟨b, off + i * 2 + 1, none⟩ = some (.string ⟨(l[i]).2.toArray⟩) := by
  obtain ⟨b, off, e, hb, hc⟩ := h.at_ hi
  exact ⟨b, off, e, hb, by simpa using hc 0 _ rfl, hc 1 _ rfl⟩
theorem cell_far {w : World} {p q : Addr} {v : Value} (u : Value) (h : w.cell? q = some v) (hne : q.block ≠ p.block) : (w.setCell p u).cell? q = some v := (World.cell?_of_block (Below.heap_setCell w p u q.block hne)).trans h
theorem grown_set (W : World) (p : Addr) (v : Value) : W.grownBy (W.setCell p v) (some p.block) := ⟨rfl, rfl, rfl, by simp [World.setCell], fun k _ hk => Below.heap_setCell W p v k (fun e => hk (by rw [e]))⟩
/-- a slice that lies beyond B -/
def Far (B : Nat) (A : Option Addr) : Prop := ∀ a, A = some a → B ≤ a.block
theorem own_far {w : World} {base e size n c : Nat} {A : Option Addr} {xs : List Value} (h : w.ownsRow base e size (.slice A n c) n xs) : Far base A := by
  intro a ha
  rcases h.2 with ⟨h, _⟩ | ⟨g, cap, cur, h, hg, _⟩
  · injection h with h
    rw [h] at ha; cases ha
  · injection h with h
    rw [h] at ha
    injection ha with ha
    subst ha
    exact hg

set_option maxRecDepth 100000 in
set_option maxHeartbeats 4000000 in
theorem reversed_any (m : Mod) (A : Option Addr) (c : Nat) (l : List Mod) (A' : Option Addr) (c' : Nat) (s : List Src2) (w : World) (hA : Sl w w.heap.size 4 encM A l) (hS : Sl w w.heap.size 2 encT A' s) (hl : l.length ≤ 20) (hs : s.length ≤ 8) :
    Calls Tryz.prog 24 #[.agg #[.string ⟨m.1.toArray⟩, .int .i64 m.2.1, .int .i64 m.2.2.1, .int .i64 m.2.2.2, .slice A l.length c, .slice A' s.length c']] w fun e w' =>
      ∃ A2 c2 A3 c3, e = .returned (.agg #[.string ⟨m.1.toArray⟩, .int .i64 m.2.1, .int .i64 m.2.2.1, .int .i64 m.2.2.2, .slice A2 l.length c2, .slice A3 s.length c3]) ∧ Sl w' w'.heap.size 4 encM A2 l.reverse ∧ Sl w' w'.heap.size 2 encT A3 s.reverse ∧ Far w.heap.size A2 ∧ Far w.heap.size A3 ∧ Below w.heap.size w w' := by
  have HA := Lib.hid hA
  have HS := Lib.hid hS
  clear hA hS
  go_enter Tryz.func24, Tryz.ntmps24
  go_wp2_with fail
  go_loopw [4] (fun i wr => ∃ (d k : Nat) (i0 : Int) (A4 : Option Addr) (c4 : Nat), d + k = s.length ∧ i = .int .i64 i0 ∧ i0 = (d : Int) - 1 ∧
      Hid (Blk wr w.heap.size 40 #[.string ⟨m.1.toArray⟩, .int .i64 m.2.1, .int .i64 m.2.2.1, .int .i64 m.2.2.2, .slice A l.length c, .slice A' s.length c']) ∧
      Hid (Blk wr (w.heap.size + 1) 40 #[.string ByteArray.empty, .int .i64 0, .int .i64 0, .int .i64 0, .slice none 0 0, .slice none 0 0]) ∧
      Hid (Blk wr (w.heap.size + 1 + 1) 40 #[.string ⟨m.1.toArray⟩, .int .i64 m.2.1, .int .i64 m.2.2.1, .int .i64 m.2.2.2, .slice none 0 0, .slice A4 k c4]) ∧
      Hid (wr.ownsRow (w.heap.size + 3) 56 2 (.slice A4 k c4) k ((s.drop d).reverse.flatMap encT)) ∧ w.heap.size + 3 ≤ wr.heap.size ∧ Below w.heap.size w wr) (fun i _ => (intOf i + 1).toNat)
  case atStart =>
    refine ⟨s.length, 0, _, none, 0, rfl, rfl, rfl, ?_, ?_, ?_, ?_, ?_, ?_⟩
    · exact ((Blk.new w _ _).keep ((Below.refl _ _).alloc (Nat.le_refl _) _)).keep ((Below.refl _ _).alloc (Nat.le_refl _) _)
    · have h := (Blk.new (w.alloc (.cells #[.string ⟨m.1.toArray⟩, .int .i64 m.2.1, .int .i64 m.2.2.1, .int .i64 m.2.2.2, .slice A l.length c, .slice A' s.length c'] 40)) 40 #[.string ByteArray.empty, .int .i64 0, .int .i64 0, .int .i64 0, .slice none 0 0, .slice none 0 0]).keep ((Below.refl _ _).alloc (Nat.le_refl _) (.cells #[.string ⟨m.1.toArray⟩, .int .i64 m.2.1, .int .i64 m.2.2.1, .int .i64 m.2.2.2, .slice none 0 0, .slice none 0 0] 40))
      rw [World.size_alloc] at h
      exact h
    · have h := Blk.new ((w.alloc (.cells #[.string ⟨m.1.toArray⟩, .int .i64 m.2.1, .int .i64 m.2.2.1, .int .i64 m.2.2.2, .slice A l.length c, .slice A' s.length c'] 40)).alloc (.cells #[.string ByteArray.empty, .int .i64 0, .int .i64 0, .int .i64 0, .slice none 0 0, .slice none 0 0] 40)) 40 #[.string ⟨m.1.toArray⟩, .int .i64 m.2.1, .int .i64 m.2.2.1, .int .i64 m.2.2.2, .slice none 0 0, .slice none 0 0]
      rw [World.size_alloc, World.size_alloc] at h
      exact h
    · rw [List.drop_length]; exact World.ownsRow_nil _ _ _ _
    · simp
    · exact (((Below.refl _ _).alloc (Nat.le_refl _) _).alloc (by simp) _).alloc (by simp; omega) _
  case round =>
    obtain ⟨d, k, i0, A4, c4, hdk, rfl, hi0, q0, q1, q2, ho, hz, hb⟩ := hrel
    rcases d with _ | j
    · obtain rfl : i0 = -1 := by omega
      clear hi0
      obtain rfl : k = s.length := by omega
      clear hdk
      obtain ⟨wo, hwo⟩ : ∃ wo, wo = wr := ⟨_, rfl⟩
      subst hwo
      have r4 : wo.cell? ⟨w.heap.size, 4, none⟩ = some (.slice A l.length c) := q0.out.cell 4
      go_wp2
      go_loopw [5] (fun i wr => ∃ (d k : Nat) (i0 : Int) (A5 : Option Addr) (c5 : Nat), d + k = l.length ∧ i = .int .i64 i0 ∧ i0 = (d : Int) - 1 ∧
          Hid (Blk wr w.heap.size 40 #[.string ⟨m.1.toArray⟩, .int .i64 m.2.1, .int .i64 m.2.2.1, .int .i64 m.2.2.2, .slice A l.length c, .slice A' s.length c']) ∧
          Hid (Blk wr (w.heap.size + 1) 40 #[.string ByteArray.empty, .int .i64 0, .int .i64 0, .int .i64 0, .slice none 0 0, .slice none 0 0]) ∧
          Hid (Blk wr (w.heap.size + 1 + 1) 40 #[.string ⟨m.1.toArray⟩, .int .i64 m.2.1, .int .i64 m.2.2.1, .int .i64 m.2.2.2, .slice A5 k c5, .slice A4 s.length c4]) ∧
          Hid (wr.ownsRow (w.heap.size + 3) 56 2 (.slice A4 s.length c4) s.length ((s.drop 0).reverse.flatMap encT)) ∧
          Hid (wr.ownsRow wo.heap.size 34 4 (.slice A5 k c5) k ((l.drop d).reverse.flatMap encM)) ∧ wo.heap.size ≤ wr.heap.size ∧ Below w.heap.size w wr) (fun i _ => (intOf i + 1).toNat)
      case atStart => exact ⟨l.length, 0, _, none, 0, rfl, rfl, rfl, q0, q1, q2, ho, by rw [List.drop_length]; exact World.ownsRow_nil _ _ _ _, Nat.le_refl _, hb⟩
      case round =>
        obtain ⟨d, k, i0, A5, c5, hdk, rfl, hi0, u0, u1, u2, ho4, ho5, hz5, hb5⟩ := hrel
        rcases d with _ | j
        · obtain rfl : i0 = -1 := by omega
          clear hi0
          obtain rfl : k = l.length := by omega
          have x0 : wr.cell? ⟨w.heap.size + 1 + 1, 0, none⟩ = some (.string ⟨m.1.toArray⟩) := u2.out.cell 0
          have x1 : wr.cell? ⟨w.heap.size + 1 + 1, 1, none⟩ = some (.int .i64 m.2.1) := u2.out.cell 1
          have x2 : wr.cell? ⟨w.heap.size + 1 + 1, 2, none⟩ = some (.int .i64 m.2.2.1) := u2.out.cell 2
          have x3 : wr.cell? ⟨w.heap.size + 1 + 1, 3, none⟩ = some (.int .i64 m.2.2.2) := u2.out.cell 3
          have x4 : wr.cell? ⟨w.heap.size + 1 + 1, 4, none⟩ = some (.slice A5 l.length c5) := u2.out.cell 4
          have x5 : wr.cell? ⟨w.heap.size + 1 + 1, 5, none⟩ = some (.slice A4 s.length c4) := u2.out.cell 5
          have y0 : wr.cell? ⟨w.heap.size + 1, 0, none⟩ = some (.string ByteArray.empty) := u1.out.cell 0
          have y1 : wr.cell? ⟨w.heap.size + 1, 1, none⟩ = some (.int .i64 0) := u1.out.cell 1
          have y2 : wr.cell? ⟨w.heap.size + 1, 2, none⟩ = some (.int .i64 0) := u1.out.cell 2
          have y3 : wr.cell? ⟨w.heap.size + 1, 3, none⟩ = some (.int .i64 0) := u1.out.cell 3
          have y4 : wr.cell? ⟨w.heap.size + 1, 4, none⟩ = some (.slice none 0 0) := u1.out.cell 4
          have y5 : wr.cell? ⟨w.heap.size + 1, 5, none⟩ = some (.slice none 0 0) := u1.out.cell 5
          have f0 : wr.frozen? ⟨w.heap.size + 1, 0, none⟩ = false := u1.out.free 0
          have f1 : wr.frozen? ⟨w.heap.size + 1, 1, none⟩ = false := u1.out.free 1
          have f2 : wr.frozen? ⟨w.heap.size + 1, 2, none⟩ = false := u1.out.free 2
          have f3 : wr.frozen? ⟨w.heap.size + 1, 3, none⟩ = false := u1.out.free 3
          have f4 : wr.frozen? ⟨w.heap.size + 1, 4, none⟩ = false := u1.out.free 4
          have f5 : wr.frozen? ⟨w.heap.size + 1, 5, none⟩ = false := u1.out.free 5
          go_wp2
          have hB : Below w.heap.size w wr := hb5
          have hS4 := Lib.hid (Acc.slAny (.inl ho4.out) encT_len (by decide))
          have hS5 := Lib.hid (Acc.slAny (.inl ho5.out) encM_len (by decide))
          have F4 := own_far ho4.out
          have F5 := own_far ho5.out
          have ne4 : (s.drop 0).reverse = [] ∨ ∀ a, A4 = some a → a.block ≠ w.heap.size + 1 := .inr fun a ha => by have := F4 a ha; omega
          have ne5 : (l.drop 0).reverse = [] ∨ ∀ a, A5 = some a → a.block ≠ w.heap.size + 1 := .inr fun a ha => by have := F5 a ha; omega
          refine bodyPost_ret (v := .agg #[.string ⟨m.1.toArray⟩, .int .i64 m.2.1, .int .i64 m.2.2.1, .int .i64 m.2.2.2, .slice A5 l.length c5, .slice A4 s.length c4]) (by simp [results, Tryz.results24, go_sem, y0, y1, y2, y3, y4, y5]) rfl ⟨A5, c5, A4, c4, rfl, ?_, ?_, fun a ha => by have := F5 a ha; omega, fun a ha => by have := F4 a ha; omega, ?_⟩
          · have hsz : ∀ (W : World) p u, (W.setCell p u).heap.size = W.heap.size := fun W p u => by simp [World.setCell]
            simp only [hsz]
            exact (((((hS5.out.setCell _ _ ne5).setCell _ _ ne5).setCell _ _ ne5).setCell _ _ ne5).setCell _ _ ne5).setCell _ _ ne5
          · have hsz : ∀ (W : World) p u, (W.setCell p u).heap.size = W.heap.size := fun W p u => by simp [World.setCell]
            simp only [hsz]
            exact (((((hS4.out.setCell _ _ ne4).setCell _ _ ne4).setCell _ _ ne4).setCell _ _ ne4).setCell _ _ ne4).setCell _ _ ne4
          · exact (((((hB.setCell (by simp) _).setCell (by simp) _).setCell (by simp) _).setCell (by simp) _).setCell (by simp) _).setCell (by simp) _
        · obtain rfl : i0 = (j : Nat) := by omega
          clear hi0
          have hj : j < l.length := by omega
          obtain ⟨b, off, rfl, hbB, g0, g1, g2, g3⟩ := (HA.out.below hb5).mod hj
          have HD := Lib.hid (drop_rev (enc := encM) l j hj)
          have hel : encM l[j] = [.string ⟨(l[j]).1.toArray⟩, .int .i64 (l[j]).2.1, .int .i64 (l[j]).2.2.1, .int .i64 (l[j]).2.2.2] := rfl
          rw [hel] at HD
          clear hel
          generalize l[j] = x at g0 g1 g2 g3 HD
          have hjl : (j : Int) < (l.length : Int) := by omega
          have r4 : wr.cell? ⟨w.heap.size, 4, none⟩ = some (.slice (some ⟨b, off, none⟩) l.length c) := u0.out.cell 4
          have s4 : wr.cell? ⟨w.heap.size + 1 + 1, 4, none⟩ = some (.slice A5 k c5) := u2.out.cell 4
          go_wp2
          have HO := Lib.hid ho5.out
          have b0 : k + 1 ≤ maxLen := by unfold maxLen; omega
          have b1 : (k + 1) * 40 ≤ 140737488355328 := by omega
          have s4a : (wr.alloc (.cells #[.string ⟨x.1.toArray⟩, .int .i64 x.2.1, .int .i64 x.2.2.1, .int .i64 x.2.2.2] 34)).cell? ⟨w.heap.size + 1 + 1, 4, none⟩ = some (.slice A5 k c5) := cell_keep_alloc _ s4
          go_region_law (first | (refine step_own rfl (.tmp 40) (.tmp 47) rfl wo.heap.size elMod (.slice A5 k c5) k _ rfl (HO.out.alloc _) _ 1 1 _ rfl (Src.lit _ 4 _ _ 1 rfl) (by decide) (by simp [Value.oneCell']) b0 b1 (by simp; omega) ?_; intro v' w3 hown3 hgrow3 hb3; obtain ⟨g', cap', rfl⟩ := ownsRow_pos hown3 (by omega); have qB := (hb3.block (w.heap.size + 1 + 1) (by omega)).trans (u2.out.keep ((Below.refl _ _).drew.alloc (Nat.le_refl _) _)); have z6 : w3.cell? ⟨w.heap.size + 1 + 1, 4, none⟩ = some (.slice A5 k c5) := Blk.cell qB 4; have z5 : w3.frozen? ⟨w.heap.size + 1 + 1, 4, none⟩ = false := Blk.free qB 4))
          all_goals
            have bW : Below w.heap.size w ((wr.alloc (.cells #[.string ⟨x.1.toArray⟩, .int .i64 x.2.1, .int .i64 x.2.2.1, .int .i64 x.2.2.2] 34)).drew) := (hb5.alloc hb5.size _).drew
            have qA := (hb3.block w.heap.size (by omega)).trans (u0.out.keep (((Below.refl _ _).alloc (Nat.le_refl _) _).drew))
            have qR := (hb3.block (w.heap.size + 1) (by omega)).trans (u1.out.keep (((Below.refl _ _).alloc (Nat.le_refl _) _).drew))
            have HO4 := Lib.hid ((show ((wr.alloc (.cells #[.string ⟨x.1.toArray⟩, .int .i64 x.2.1, .int .i64 x.2.2.1, .int .i64 x.2.2.2] 34)).drew).ownsRow _ _ _ _ _ _ from ho4.out.alloc _).kept hgrow3 (by
              by_cases hv : (Value.slice A4 s.length c4).ownBlock = none
              · exact .inl hv
              · refine .inr fun e => hv ?_
                cases hq : (Value.slice A4 s.length c4).ownBlock with
                | none => rfl
                | some q =>
                  exfalso
                  have h1 := (ho.out.lt _ hq).2
                  rw [hq] at e
                  have h2 := (ho5.out.lt _ e.symm).1
                  omega))
            have KA := Lib.hid qA
            have KR := Lib.hid qR
            have KB := Lib.hid qB
            have HO3 := Lib.hid hown3
            have hz3 := hgrow3.size
            simp at hz3
            have HB3 := Lib.hid (bW.trans (hb3.mono (by omega)))
            clear qA qR qB hown3 bW hb3
            go_wp2
            go_roundw
            case rel =>
              refine ⟨j, k + 1, _, some ⟨g', 0, none⟩, cap', by omega, by go_num, by omega, ?_, ?_, ?_, ?_, ?_, ?_, ?_⟩
              · exact Blk.far (t := 40) KA.out (p := ⟨w.heap.size + 1 + 1, 4, none⟩) (by show w.heap.size ≠ w.heap.size + 1 + 1; omega) _
              · exact Blk.far (t := 40) KR.out (p := ⟨w.heap.size + 1 + 1, 4, none⟩) (by show w.heap.size + 1 ≠ w.heap.size + 1 + 1; omega) _
              · exact Blk.set_ (t := 40) KB.out 4 _
              · exact HO4.out.kept (grown_set w3 _ _) (.inr (fun e => by have := (HO4.out.lt _ e).1; simp only at this; omega))
              · have h := HO3.out
                rw [← HD.out] at h
                exact h.kept (grown_set w3 _ _) (.inr (fun e => by have := (HO3.out.lt _ e).1; simp only at this; omega))
              · simp; omega
              · exact HB3.out.setCell (p := ⟨w.heap.size + 1 + 1, 4, none⟩) (by show w.heap.size ≤ w.heap.size + 1 + 1; omega) _
            case measure => simp [intOf]
    · obtain rfl : i0 = (j : Nat) := by omega
      clear hi0
      have hj : j < s.length := by omega
      obtain ⟨b, off, rfl, hbB, g0, g1⟩ := (HS.out.below hb).srcT hj
      have HD := Lib.hid (drop_rev (enc := encT) s j hj)
      have hel : encT s[j] = [.string ⟨(s[j]).1.toArray⟩, .string ⟨(s[j]).2.toArray⟩] := rfl
      rw [hel] at HD
      clear hel
      generalize s[j] = x at g0 g1 HD
      have hjl : (j : Int) < (s.length : Int) := by omega
      have r5 : wr.cell? ⟨w.heap.size, 5, none⟩ = some (.slice (some ⟨b, off, none⟩) s.length c') := q0.out.cell 5
      have s5 : wr.cell? ⟨w.heap.size + 1 + 1, 5, none⟩ = some (.slice A4 k c4) := q2.out.cell 5
      go_wp2
      have HO := Lib.hid ho.out
      have b0 : k + 1 ≤ maxLen := by unfold maxLen; omega
      have b1 : (k + 1) * 32 ≤ 140737488355328 := by omega
      have hbz : w.heap.size + 3 ≤ wr.heap.size := hz
      have hfar := own_far ho.out
      have n0 : some w.heap.size ≠ (Value.slice A4 k c4).ownBlock := fun e => by have := (ho.out.lt _ e.symm).1; omega
      have n1 : some (w.heap.size + 1 + 1) ≠ (Value.slice A4 k c4).ownBlock := fun e => by have := (ho.out.lt _ e.symm).1; omega
      have n2 : some b ≠ (Value.slice A4 k c4).ownBlock := fun e => by have := (ho.out.lt _ e.symm).1; omega
      have s5a : (wr.alloc (.cells #[.string ⟨x.1.toArray⟩, .string ⟨x.2.toArray⟩] 56)).cell? ⟨w.heap.size + 1 + 1, 5, none⟩ = some (.slice A4 k c4) := cell_keep_alloc _ s5
      go_region_law (first | (refine step_own rfl (.tmp 20) (.tmp 26) rfl (w.heap.size + 3) elSrcs (.slice A4 k c4) k _ rfl (HO.out.alloc _) _ 1 1 _ rfl (Src.lit _ 2 _ _ 1 rfl) (by decide) (by simp [Value.oneCell']) b0 b1 (by simp; omega) ?_; intro v' w3 hown3 hgrow3 hb3; obtain ⟨g', cap', rfl⟩ := ownsRow_pos hown3 (by omega); have qB := (hb3.block (w.heap.size + 1 + 1) (by omega)).trans (q2.out.keep ((Below.refl _ _).drew.alloc (Nat.le_refl _) _)); have z6 : w3.cell? ⟨w.heap.size + 1 + 1, 5, none⟩ = some (.slice A4 k c4) := Blk.cell qB 5; have z5 : w3.frozen? ⟨w.heap.size + 1 + 1, 5, none⟩ = false := Blk.free qB 5))
      all_goals
        have bW : Below w.heap.size w ((wr.alloc (.cells #[.string ⟨x.1.toArray⟩, .string ⟨x.2.toArray⟩] 56)).drew) := (hb.alloc hb.size _).drew
        have qA := (hb3.block w.heap.size (by omega)).trans (q0.out.keep (((Below.refl _ _).alloc (Nat.le_refl _) _).drew))
        have qR := (hb3.block (w.heap.size + 1) (by omega)).trans (q1.out.keep (((Below.refl _ _).alloc (Nat.le_refl _) _).drew))
        have KA := Lib.hid qA
        have KR := Lib.hid qR
        have KB := Lib.hid qB
        have HO3 := Lib.hid hown3
        have hz3 := hgrow3.size
        simp at hz3
        have HB3 := Lib.hid (bW.trans (hb3.mono (by omega)))
        clear qA qR qB hown3 bW hb3
        go_wp2
        go_roundw
        case rel =>
          refine ⟨j, k + 1, _, some ⟨g', 0, none⟩, cap', by omega, by go_num, by omega, ?_, ?_, ?_, ?_, ?_, ?_⟩
          · exact Blk.far (t := 40) KA.out (p := ⟨w.heap.size + 1 + 1, 5, none⟩) (by show w.heap.size ≠ w.heap.size + 1 + 1; omega) _
          · exact Blk.far (t := 40) KR.out (p := ⟨w.heap.size + 1 + 1, 5, none⟩) (by show w.heap.size + 1 ≠ w.heap.size + 1 + 1; omega) _
          · exact Blk.set_ (t := 40) KB.out 5 _
          · have h := HO3.out
            rw [← HD.out] at h
            exact h.kept (grown_set w3 _ _) (.inr (fun e => by have := (HO3.out.lt _ e).1; simp only at this; omega))
          · simp; omega
          · exact HB3.out.setCell (p := ⟨w.heap.size + 1 + 1, 5, none⟩) (by show w.heap.size ≤ w.heap.size + 1 + 1; omega) _
        case measure => simp [intOf]
end Go.Proofs.YtabmidnamaaklaaGreatDoor
