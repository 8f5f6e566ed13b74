/- What the claim needs of: WS1 WS2. -/
import Derived.Test.YthcgihgajdjfoaaGreatDoorU9
import Derived.Test.YthcgihgajdjfoaaGreatDoorU15
namespace Go.Proofs.YthcgihgajdjfoaaGreatDoor
open Go.RowKit Go.Sort
abbrev ManW := Mod × (Option Addr × Nat × List Mod)
def encW (y : ManW) : List Value := [.string ⟨y.1.1.toArray⟩, .int .i64 y.1.2.1, .int .i64 y.1.2.2.1, .int .i64 y.1.2.2.2, .slice y.2.1 y.2.2.2.length y.2.2.1]
theorem encW_len (y : ManW) : (encW y).length = 5 := rfl
def plainW (y : ManW) : Mod × List Mod := (y.1, y.2.2.2)
def regW (Y : List ManW) : Regy := Y.map plainW
def okB (m : Mod) : Prop := m.1.length ≤ 1048576 ∧ okI m.2.1 ∧ okI m.2.2.1 ∧ okI m.2.2.2
theorem okB.ok {m : Mod} (h : okB m) : okMod m := ⟨by have := h.1; unfold maxLen; omega, h.2⟩
def ManOk (w : World) (B : Nat) (y : ManW) : Prop := Sl w B 4 encM y.2.1 y.2.2.2 ∧ y.2.2.2.length ≤ 100 ∧ ∀ m ∈ y.1 :: y.2.2.2, okB m
theorem ManOk.keep {w w' : World} {B : Nat} {y : ManW} (h : ManOk w B y) (hb : Below B w w') : ManOk w' B y := ⟨h.1.below hb, h.2⟩
theorem ManOk.more {w : World} {B B' : Nat} {y : ManW} (h : ManOk w B y) (hb : B ≤ B') : ManOk w B' y := ⟨h.1.more hb, h.2⟩
def RegOk (w : World) (B : Nat) (A : Option Addr) (Y : List ManW) : Prop := Sl w B 5 encW A Y ∧ (∀ y ∈ Y, ManOk w B y) ∧ Y.length ≤ 100
theorem RegOk.keep {w w' : World} {B : Nat} {A : Option Addr} {Y : List ManW} (h : RegOk w B A Y) (hb : Below B w w') : RegOk w' B A Y := ⟨h.1.below hb, fun y hy => (h.2.1 y hy).keep hb, h.2.2⟩
theorem RegOk.more {w : World} {B B' : Nat} {A : Option Addr} {Y : List ManW} (h : RegOk w B A Y) (hb : B ≤ B') : RegOk w B' A Y := ⟨h.1.more hb, fun y hy => (h.2.1 y hy).more hb, h.2.2⟩
theorem RegOk.step {w w' : World} {A : Option Addr} {Y : List ManW} (h : RegOk w w.heap.size A Y) (hb : Below w.heap.size w w') : RegOk w' w'.heap.size A Y := (h.keep hb).more hb.size
theorem Sl.man {w : World} {B : Nat} {A : Option Addr} {Y : List ManW} (h : Sl w B 5 encW A Y) {i : Nat} (hi : i < Y.length) :
    ∃ b off, A = some ⟨b, off, none⟩ ∧ b < B ∧ w.cell? ⟨b, off + i * 5, none⟩ = some (.string ⟨(Y[i]).1.1.toArray⟩) ∧ w.cell? ⟨b, off + i * 5 + 1, none⟩ = some (.int .i64 (Y[i]).1.2.1) ∧
      w.cell? ⟨b, off + i * 5 + 2, none⟩ = some (.int .i64 (Y[i]).1.2.2.1) ∧ w.cell? ⟨b, off + i * 5 + 3, none⟩ = some (.int .i64 (Y[i]).1.2.2.2) ∧ w.cell? ⟨b, off + i * 5 + 4, none⟩ = some (.slice (Y[i]).2.1 (Y[i]).2.2.2.length (Y[i]).2.2.1) := by
  obtain ⟨b, off, e, hb, hc⟩ := h.at_ hi
  exact ⟨b, off, e, hb, by simpa using hc 0 _ rfl, hc 1 _ rfl, hc 2 _ rfl, hc 3 _ rfl, hc 4 _ rfl⟩
theorem zeroBool (w : World) : (zeroValue 4).run Tryz.prog w = .ok (.bool false) w := Tryz.zeroValue4 w
def seenM (L : List Mod) (m : Mod) : Option Value := if m ∈ L then some (.bool true) else none
theorem seenM_get (L : List Mod) (m : Mod) : (seenM L m).getD (.bool false) = .bool (decide (m ∈ L)) := by
  unfold seenM
  split <;> simp [*]
theorem seenM_put (L : List Mod) (a : Mod) : (fun x => if x = a then some (.bool true) else seenM L x) = seenM (L ++ [a]) := by
  funext x
  unfold seenM
  by_cases h : x = a <;> by_cases h2 : x ∈ L <;> simp [h, h2]
set_option maxRecDepth 100000 in
set_option maxHeartbeats 4000000 in
theorem selCheck_any (A : Option Addr) (c : Nat) (Y : List ManW) (w : World) (hY : RegOk w w.heap.size A Y) (hG : Glob w) :
    Calls Tryz.prog 66 #[.slice A Y.length c] w fun e w' => e = .returned (.int .i64 (checkR (regW Y))) ∧ Below w.heap.size w w' := by
  have HY := Lib.hid hY
  have HG := Lib.hid hG
  have hYl := hY.2.2
  have hRl : (regW Y).length = Y.length := by simp [regW]
  have HRat := Lib.hid (fun i (hi : i < Y.length) (hr : i < (regW Y).length) => show (regW Y)[i] = (Y[i].1, Y[i].2.2.2) by simp [regW, plainW])
  have HRL := Lib.hid hRl
  obtain ⟨E, hE⟩ : ∃ E, E = checkR (regW Y) := ⟨_, rfl⟩
  rw [← hE]
  unfold checkR at hE
  have hCR := Lib.hid hE
  clear hE
  generalize regW Y = R at HRat HRL hCR
  have hm0 := OMap.made KM w
  have hmm := @run_makeMap Tryz.prog
  clear hY hG hRl
  go_enter Tryz.func66, Tryz.ntmps66
  go_wp2
  go_loopw [4, 11] (fun tw i wr => ∃ k : Nat, k ≤ Y.length ∧ i = .int .i64 (k : Nat) ∧ tw = .bool (dupR (R.take k)) ∧ Hid (firstBad (R.take k) = 0) ∧ OMap KM wr w.heap.size k (seenM ((R.take k).map (·.1))) ∧ Below w.heap.size w wr) (fun _ i _ => Y.length - (intOf i).toNat)
  case atStart => exact ⟨0, Nat.zero_le _, rfl, rfl, Lib.hid rfl, hm0, (Below.refl _ _).alloc (Nat.le_refl _) _⟩
  case round =>
    obtain ⟨k, hk, rfl, rfl, HF, hm, hb⟩ := hrel
    have hbz := hb.size
    by_cases hlt : k < Y.length
    · have hlt' : (k : Int) < (Y.length : Int) := by omega
      obtain ⟨b, off, rfl, hbB, g0, g1, g2, g3, g4⟩ := (HY.out.keep hb).1.man hlt
      obtain ⟨hy1, hy2, hy3⟩ := HY.out.2.1 _ (List.getElem_mem hlt)
      have hkR : k < R.length := by rw [HRL.out]; exact hlt
      have hRk := HRat.out k hlt hkR
      have HHit := Lib.hid (firstBad_hit R k hkR HF.out)
      have HStep := Lib.hid (firstBad_step R k hkR HF.out)
      have HDup := Lib.hid (dupR_step R k hkR)
      have HTk := Lib.hid (show (R.take (k + 1)).map (·.1) = (R.take k).map (·.1) ++ [Y[k].1] by rw [List.take_succ_eq_append_getElem hkR, List.map_append, hRk]; rfl)
      rw [hRk] at HHit HStep HDup
      have HS := Lib.hid hy1
      generalize Y[k] = y at g0 g1 g2 g3 g4 HS hy2 hy3 HHit HStep HDup HTk
      obtain ⟨m, A1, c1, l1⟩ := y
      simp only at g0 g1 g2 g3 g4 HS hy2 hy3 HHit HStep HDup HTk
      have hbq := hb.alloc hbz (.cells #[.string ⟨m.1.toArray⟩, .int .i64 m.2.1, .int .i64 m.2.2.1, .int .i64 m.2.2.2, .slice A1 l1.length c1] 29)
      have q0 := Blk.new wr 29 #[.string ⟨m.1.toArray⟩, .int .i64 m.2.1, .int .i64 m.2.2.1, .int .i64 m.2.2.2, .slice A1 l1.length c1]
      have hm1 := hm.alloc (.cells #[.string ⟨m.1.toArray⟩, .int .i64 m.2.1, .int .i64 m.2.2.1, .int .i64 m.2.2.2, .slice A1 l1.length c1] 29)
      have hz1 : (wr.alloc (.cells #[.string ⟨m.1.toArray⟩, .int .i64 m.2.1, .int .i64 m.2.2.1, .int .i64 m.2.2.2, .slice A1 l1.length c1] 29)).heap.size = wr.heap.size + 1 := by simp
      have cC := Lib.hid (fun W (hW : Below w.heap.size w W) => Check_any m A1 c1 l1 W ((HS.out.below hW).more hW.size) (by omega) (fun x hx => by have := (hy3 x hx).1; unfold maxLen; omega) (HG.out.keep hW))
      have HOK := Lib.hid (show okMod m from (hy3 m (by simp)).ok)
      have Q0 := Lib.hid q0
      have M1 := Lib.hid hm1
      have HBQ := Lib.hid hbq
      clear q0 hm1 hbq hy3 hm
      generalize mcheck m l1 = e0 at cC HHit HStep
      go_wp2_with fail
      generalize (wr.alloc (.cells #[.string ⟨m.1.toArray⟩, .int .i64 m.2.1, .int .i64 m.2.2.1, .int .i64 m.2.2.2, .slice A1 l1.length c1] 29)) = w1 at Q0 M1 HBQ hz1 ⊢
      refine (cC.out w1 HBQ.out).mono ?_
      rintro e w2 ⟨rfl, hb2⟩
      have Q2 := Lib.hid (Q0.out.keep hb2)
      have M2 := Lib.hid (M1.out.below hb2)
      have HB2 := Lib.hid (HBQ.out.trans (hb2.mono HBQ.out.size))
      clear hb2 cC Q0 M1 g0 g1 g2 g3 g4
      by_cases he0 : e0 = 0
      · subst he0
        have HF2 := Lib.hid (HStep.out rfl)
        clear HHit HStep
        have y0 := Q2.out.cell 0
        have y1 := Q2.out.cell 1
        have y2 := Q2.out.cell 2
        have y3 := Q2.out.cell 3
        simp at y0 y1 y2 y3
        have hlook := M2.out.look Tryz.underlying136 (zeroBool w2) m HOK.out
        rw [seenM_get] at hlook
        obtain ⟨w3, hput, hm3, hg3⟩ := M2.out.put Tryz.underlying136 (by unfold maxLen; omega) m HOK.out (.bool true)
        rw [seenM_put] at hm3
        have hlook' : (Instr.lookup 136 (.map (some w.heap.size)) (.agg #[.string ⟨m.1.toArray⟩, .int .i64 m.2.1, .int .i64 m.2.2.1, .int .i64 m.2.2.2]) false).run Tryz.prog w2 = _ := hlook
        have hput' : (Instr.mapUpdate 136 (.map (some w.heap.size)) (.agg #[.string ⟨m.1.toArray⟩, .int .i64 m.2.1, .int .i64 m.2.2.1, .int .i64 m.2.2.2]) (.bool true)).run Tryz.prog w2 = _ := hput
        have M3 := Lib.hid hm3
        have HB3 := Lib.hid (HB2.out.grown hg3 HB2.out.size (by simp))
        clear hlook hput hm3 hg3 M2 Q2
        generalize decide (m ∈ (R.take k).map (·.1)) = d at hlook' HDup
        cases hd : dupR (R.take k)
        · rw [hd] at HDup
          go_wp2
          go_roundw
          case rel => exact ⟨k + 1, by omega, by go_num, by rw [HDup.out]; rfl, HF2, by rw [HTk.out]; exact M3.out, HB3.out⟩
          case measure => simp [intOf]; omega
        · rw [hd] at HDup
          go_wp2
          go_roundw
          case rel => exact ⟨k + 1, by omega, by go_num, by rw [HDup.out]; rfl, HF2, by rw [HTk.out]; exact M3.out, HB3.out⟩
          case measure => simp [intOf]; omega
      · have hfin := Lib.hid (show E = e0 by
          have h := HHit.out he0
          rw [hCR.out, if_neg (by rw [h]; exact he0), h])
        have he1 : (e0 != 0) = true := by simpa using he0
        clear he0 HHit HStep
        go_wp2
        go_ret
        exact ⟨by rw [hfin.out]; rfl, HB2.out⟩
    · obtain rfl : k = Y.length := by omega
      have hf := HF.out
      rw [← HRL.out, List.take_of_length_le (Nat.le_refl _)] at hf
      have hfin := Lib.hid (show E = if dupR R = true then 6 else 0 by rw [hCR.out, if_pos hf])
      have ht : R.take Y.length = R := List.take_of_length_le (by rw [HRL.out]; exact Nat.le_refl _)
      rw [ht] at *
      clear hf HF ht hCR
      cases hd : dupR R
      · rw [hd] at hfin
        go_wp2
        go_ret
        exact ⟨by rw [hfin.out]; rfl, hb⟩
      · rw [hd] at hfin
        go_wp2
        go_ret
        exact ⟨by rw [hfin.out]; rfl, hb⟩
end Go.Proofs.YthcgihgajdjfoaaGreatDoor
namespace Go.Proofs.YthcgihgajdjfoaaGreatDoor
open Go.RowKit Go.Sort
def manV (y : ManW) : Value := .agg (encW y).toArray
def findF (Y : List ManW) (m : Mod) : Option Value := (Y.find? fun y => decide (y.1 = m)).map manV
theorem findF_put (L : List ManW) (y : ManW) (h : y.1 ∉ L.map (·.1)) : (fun x => if x = y.1 then some (manV y) else findF L x) = findF (L ++ [y]) := by
  funext x
  unfold findF
  rw [List.find?_append]
  by_cases hx : x = y.1
  · subst hx
    have : L.find? (fun z => decide (z.1 = y.1)) = none := by
      rw [List.find?_eq_none]
      intro z hz hd
      exact h (List.mem_map.2 ⟨z, hz, of_decide_eq_true hd⟩)
    simp [this]
  · cases hf : L.find? fun z => decide (z.1 = x) with
    | some z => simp [hx]
    | none => simp [hx, Ne.symm hx]
theorem manZero (w : World) : (zeroValue 29).run Tryz.prog w = .ok (.agg #[.string ByteArray.empty, .int .i64 0, .int .i64 0, .int .i64 0, .slice none 0 0]) w := Tryz.zeroValue29 w
set_option maxRecDepth 100000 in
set_option maxHeartbeats 4000000 in
theorem selIndex_any (A : Option Addr) (c : Nat) (Y : List ManW) (w : World) (hY : RegOk w w.heap.size A Y) (hn : (Y.map (·.1)).Nodup) :
    Calls Tryz.prog 68 #[.slice A Y.length c] w fun e w' => e = .returned (.map (some w.heap.size)) ∧ OMap KM w' w.heap.size Y.length (findF Y) ∧ Below w.heap.size w w' := by
  have HY := Lib.hid hY
  have HND := Lib.hid hn
  have hYl := hY.2.2
  have hm0 : OMap KM (w.alloc (.map #[] 0)) w.heap.size 0 (findF []) := OMap.made KM w
  have hmm := @run_makeMap Tryz.prog
  clear hY hn
  go_enter Tryz.func68, Tryz.ntmps68
  go_wp2
  go_loopw [9] (fun i wr => ∃ k : Nat, k ≤ Y.length ∧ i = .int .i64 (k : Nat) ∧ OMap KM wr w.heap.size k (findF (Y.take k)) ∧ Below w.heap.size w wr) (fun i _ => Y.length - (intOf i).toNat)
  case atStart => exact ⟨0, Nat.zero_le _, rfl, hm0, (Below.refl _ _).alloc (Nat.le_refl _) _⟩
  case round =>
    obtain ⟨k, hk, rfl, hm, hb⟩ := hrel
    have hbz := hb.size
    by_cases hlt : k < Y.length
    · have hlt' : (k : Int) < (Y.length : Int) := by omega
      obtain ⟨b, off, rfl, hbB, g0, g1, g2, g3, g4⟩ := (HY.out.keep hb).1.man hlt
      obtain ⟨_, _, hy3⟩ := HY.out.2.1 _ (List.getElem_mem hlt)
      have HTk := Lib.hid (List.take_succ_eq_append_getElem hlt)
      have HNot := Lib.hid (show Y[k].1 ∉ (Y.take k).map (·.1) by
        have h := HND.out
        rw [← List.take_append_drop k Y, List.drop_eq_getElem_cons hlt, List.map_append, List.map_cons, List.nodup_append] at h
        exact fun hx => h.2.2 _ hx _ (by simp) rfl)
      generalize Y[k] = y at g0 g1 g2 g3 g4 hy3 HTk HNot
      have HOK := Lib.hid (show okMod y.1 from (hy3 y.1 (by simp)).ok)
      have HP := Lib.hid (findF_put (Y.take k) y HNot.out)
      obtain ⟨m, A1, c1, l1⟩ := y
      simp only at g0 g1 g2 g3 g4 HOK
      have hm1 := hm.alloc (.cells #[.string ⟨m.1.toArray⟩, .int .i64 m.2.1, .int .i64 m.2.2.1, .int .i64 m.2.2.2, .slice A1 l1.length c1] 29)
      obtain ⟨w3, hput, hm3, hg3⟩ := hm1.put Tryz.underlying114 (by unfold maxLen; omega) m HOK.out (manV (m, A1, c1, l1))
      have hput' : (Instr.mapUpdate 114 (.map (some w.heap.size)) (.agg #[.string ⟨m.1.toArray⟩, .int .i64 m.2.1, .int .i64 m.2.2.1, .int .i64 m.2.2.2]) (.agg #[.string ⟨m.1.toArray⟩, .int .i64 m.2.1, .int .i64 m.2.2.1, .int .i64 m.2.2.2, .slice A1 l1.length c1])).run Tryz.prog (wr.alloc (.cells #[.string ⟨m.1.toArray⟩, .int .i64 m.2.1, .int .i64 m.2.2.1, .int .i64 m.2.2.2, .slice A1 l1.length c1] 29)) = _ := hput
      have M3 := Lib.hid hm3
      have HB3 := Lib.hid ((hb.alloc hbz _).grown hg3 (by simp; omega) (by simp))
      clear hput hm3 hg3 hm hm1 hy3
      go_wp2
      go_roundw
      case rel => exact ⟨k + 1, by omega, by go_num, by rw [HTk.out, ← HP.out]; exact M3.out, HB3.out⟩
      case measure => simp [intOf]; omega
    · obtain rfl : k = Y.length := by omega
      rw [List.take_of_length_le (Nat.le_refl _)] at hm
      have HM := Lib.hid hm
      clear hm
      go_wp2
      go_ret
      exact ⟨rfl, HM.out, hb⟩
end Go.Proofs.YthcgihgajdjfoaaGreatDoor
