/- Walk: does a module keep below a version? (the closure of selection.Downgrade) -/
import Derived.Test.YtfiilbdkhelhgaaDoorWS6
namespace Go.Proofs.YtfiilbdkhelhgaaDoor
open Go.RowKit Go.Sort

theorem Sl.one {w : World} {B g : Nat} {x : Mod} (hb : g < B) (h : Blk w g 26 #[.string ⟨x.1.toArray⟩, .int .i64 x.2.1, .int .i64 x.2.2.1, .int .i64 x.2.2.2]) : Sl w B 4 encM (some ⟨g, 0, none⟩) [x] := by
  refine .inr ⟨g, 0, rfl, hb, fun i hi j v hv => ?_⟩
  obtain rfl : i = 0 := by simp at hi; omega
  have := h.cell j
  simp only [Nat.zero_mul, Nat.zero_add]
  rw [this]
  simpa [encM] using hv

set_option maxRecDepth 100000 in
set_option maxHeartbeats 4000000 in
theorem low_any (br nr gA gR gM : Nat) (Y : List ManW) (rp : List UInt8) (m x : Mod) (w : World) (hm : OMap KM w br nr (findF Y)) (hY : ∀ y ∈ Y, ManOk w w.heap.size y) (hYl : Y.length ≤ 100) (hx : okB x)
    (hA : w.cell? ⟨gA, 0, none⟩ = some (.map (some br))) (hR : w.cell? ⟨gR, 0, none⟩ = some (.string ⟨rp.toArray⟩)) (hM0 : w.cell? ⟨gM, 0, none⟩ = some (.string ⟨m.1.toArray⟩)) (hM1 : w.cell? ⟨gM, 1, none⟩ = some (.int .i64 m.2.1))
    (hM2 : w.cell? ⟨gM, 2, none⟩ = some (.int .i64 m.2.2.1)) (hM3 : w.cell? ⟨gM, 3, none⟩ = some (.int .i64 m.2.2.2)) :
    Calls Tryd.prog 31 #[.agg #[.string ⟨x.1.toArray⟩, .int .i64 x.2.1, .int .i64 x.2.2.1, .int .i64 x.2.2.2], .pointer (some ⟨gA, 0, none⟩), .pointer (some ⟨gR, 0, none⟩), .pointer (some ⟨gM, 0, none⟩)] w fun e w' => e = .returned (.bool (lowP (regW Y) rp m x)) ∧ Below w.heap.size w w' := by
  obtain ⟨E, hE⟩ : ∃ E, E = lowP (regW Y) rp m x := ⟨_, rfl⟩
  rw [← hE]
  have a0 := cell_keep_alloc (.cells #[.string ⟨x.1.toArray⟩, .int .i64 x.2.1, .int .i64 x.2.2.1, .int .i64 x.2.2.2] 26) hA
  have r0 := cell_keep_alloc (.cells #[.string ⟨x.1.toArray⟩, .int .i64 x.2.1, .int .i64 x.2.2.1, .int .i64 x.2.2.2] 26) hR
  have r1 := cell_keep_alloc (.cells #[.string ⟨x.1.toArray⟩, .int .i64 x.2.1, .int .i64 x.2.2.1, .int .i64 x.2.2.2] 26) r0
  have hb0 : Below w.heap.size w ((w.alloc (.cells #[.string ⟨x.1.toArray⟩, .int .i64 x.2.1, .int .i64 x.2.2.1, .int .i64 x.2.2.2] 26)).alloc (.cells #[.string ⟨x.1.toArray⟩, .int .i64 x.2.1, .int .i64 x.2.2.1, .int .i64 x.2.2.2] 26)) := ((Below.refl _ _).alloc (Nat.le_refl _) _).alloc (by simp) _
  have q1 := Blk.new (w.alloc (.cells #[.string ⟨x.1.toArray⟩, .int .i64 x.2.1, .int .i64 x.2.2.1, .int .i64 x.2.2.2] 26)) 26 #[.string ⟨x.1.toArray⟩, .int .i64 x.2.1, .int .i64 x.2.2.1, .int .i64 x.2.2.2]
  rw [World.size_alloc] at q1
  have cN0 := needed_any br nr Y (some ⟨w.heap.size + 1, 0, none⟩) 1 [x] rp ((w.alloc (.cells #[.string ⟨x.1.toArray⟩, .int .i64 x.2.1, .int .i64 x.2.2.1, .int .i64 x.2.2.2] 26)).alloc (.cells #[.string ⟨x.1.toArray⟩, .int .i64 x.2.1, .int .i64 x.2.2.1, .int .i64 x.2.2.2] 26)) (hm.below hb0) (fun y hy => ((hY y hy).keep hb0).more hb0.size) hYl (Sl.one (by simp) q1) (by simp) (fun y hy => by rw [List.mem_singleton.1 hy]; exact hx)
  have HRok := Lib.hid (show ∀ y, Reach (regW Y) [x] y → okB y from fun y h => by
    rcases List.mem_append.1 h.univ with h1 | h1
    · rw [List.mem_singleton.1 h1]; exact hx
    · obtain ⟨z, hz, hmz⟩ := List.mem_flatMap.1 h1
      obtain ⟨u, hu, rfl⟩ := List.mem_map.1 hz
      exact (hY u hu).2.2 y (List.mem_cons_of_mem _ hmz))
  unfold RetNeed at cN0
  simp only [World.size_alloc] at cN0
  have cN := Lib.hid cN0
  have HB0 := Lib.hid hb0
  have HE := Lib.hid (fun S q h1 h2 => lowP_iff (regW Y) rp m x S q h1 h2)
  rw [← hE] at HE
  have HM0 := Lib.hid hM0
  have HM1 := Lib.hid hM1
  have HM2 := Lib.hid hM2
  have HM3 := Lib.hid hM3
  clear hE hm hY cN0 q1 hb0 hM0 hM1 hM2 hM3 hx
  go_enter Tryd.func31, Tryd.ntmps31
  go_wp2_with fail
  refine cN.out.mono ?_
  rintro e w1 ⟨S, q, n, rfl, hnd, hre, hn, hMm, hq, hb1⟩
  have HB1 := Lib.hid (HB0.out.trans (hb1.mono (by omega)))
  have HEQ := Lib.hid (HE.out S q hre hq)
  have HSok := Lib.hid (show ∀ y ∈ S, okMod y from fun y hy => (HRok.out y ((hre y).1 hy)).ok)
  have hz1 := hb1.size
  simp only [World.size_alloc] at hz1
  have hlt1 : w.heap.size + 1 + 1 < w1.heap.size := hMm.lt
  obtain ⟨w3, cnt, hrun3, hR3, hg3, hz3, hcn⟩ := hMm.range Tryd.underlying59
  have R3 := Lib.hid (ORange.congr (S' := fun m => decide (m ∈ S ∧ m ∉ ([] : List Mod))) hR3 (fun a => by unfold seenM; by_cases h : a ∈ S <;> simp [h]))
  have HB3 := Lib.hid (HB1.out.grown hg3 HB1.out.size (by simp))
  clear hR3 hg3 hMm hb1 hnd hre hq cN HE a0 r0 r1 hA hR
  go_wp2_with fail
  go_loopg [7] cnt (fun g v wr => ∃ (V : List Mod) (p : Bool), v = .bool p ∧ Hid (∀ m ∈ V, m ∈ S) ∧ Hid (ORange KM wr (w.heap.size + 1 + 1) w1.heap.size n (seenM S) (fun m => decide (m ∈ S ∧ m ∉ V)) g) ∧ Hid (p = true ↔ q = true ∧ ∀ y ∈ V, y.1 ≠ m.1 ∨ vcmpV y.2 m.2 ≤ 0) ∧ Hid (Below w.heap.size w wr) ∧ w1.heap.size + 1 ≤ wr.heap.size)
  case atStart => exact ⟨[], q, rfl, Lib.hid (by simp), R3, Lib.hid (by simp), HB3, by omega⟩
  case round =>
    obtain ⟨V, p, rfl, HV, HR, HP, HB, hzr⟩ := hrel
    rcases HR.out.next 0 with ⟨hg0, hl, hrun⟩ | ⟨y, v, w4, cnt', hok, hSm, hf, hrun, hR4, hlt4, hg4, hz4, hen⟩
    · have hVS : ∀ z ∈ S, z ∈ V := fun z hz => by
        have h := hl z (HSok.out z hz)
        by_cases hmV : z ∈ V
        · exact hmV
        · rw [decide_eq_true (show z ∈ S ∧ z ∉ V from ⟨hz, hmV⟩)] at h
          cases h
      have HFIN := Lib.hid (show E = p by
        rw [Bool.eq_iff_iff, HEQ.out, HP.out]
        exact ⟨fun h => ⟨h.1, fun y hy => h.2 y (HV.out y hy)⟩, fun h => ⟨h.1, fun y hy => h.2 y (hVS y hy)⟩⟩)
      clear hl hVS HV HR HP
      go_wp2
      go_ret
      exact ⟨by rw [HFIN.out]; rfl, HB.out⟩
    · have hv : v = .bool true := by
        unfold seenM at hf
        split at hf
        · exact (Option.some.inj hf).symm
        · cases hf
      subst hv
      obtain ⟨hmS, hmV⟩ := of_decide_eq_true hSm
      have hrun' : (Instr.next (.pointer (some ⟨w1.heap.size, 0, none⟩)) false 0).run Tryd.prog wr = .ok (.tuple #[.bool true, .agg #[.string ⟨y.1.toArray⟩, .int .i64 y.2.1, .int .i64 y.2.2.1, .int .i64 y.2.2.2], .bool true]) w4 := hrun
      have hen' : (Instr.entry (.pointer (some ⟨w1.heap.size, 0, none⟩))).run Tryd.prog w4 = .ok (.tuple #[.agg #[.string ⟨y.1.toArray⟩, .int .i64 y.2.1, .int .i64 y.2.2.1, .int .i64 y.2.2.2], .bool true]) w4 := hen
      have R4 := Lib.hid (ORange.congr (S' := fun x => decide (x ∈ S ∧ x ∉ V ++ [y])) hR4 (fun x => by
        by_cases hx : x = y
        · subst hx; simp
        · by_cases h1 : x ∈ S <;> by_cases h2 : x ∈ V <;> simp [hx, h1, h2]))
      have HB4 := Lib.hid (HB.out.grown hg4 HB.out.size (by intro k hk; injection hk with hk; omega))
      have HV4 := Lib.hid (show ∀ x ∈ V ++ [y], x ∈ S from fun x hx => by
        rcases List.mem_append.1 hx with h1 | h1
        · exact HV.out x h1
        · obtain rfl : x = y := by simpa using h1
          exact hmS)
      have HPS := Lib.hid (show ∀ b : Bool, (b = true ↔ p = true ∧ (y.1 ≠ m.1 ∨ vcmpV y.2 m.2 ≤ 0)) → (b = true ↔ q = true ∧ ∀ z ∈ V ++ [y], z.1 ≠ m.1 ∨ vcmpV z.2 m.2 ≤ 0) from fun b hb => by
        rw [hb, HP.out]
        constructor
        · rintro ⟨⟨h1, h2⟩, h3⟩
          refine ⟨h1, fun z hz => ?_⟩
          rcases List.mem_append.1 hz with h4 | h4
          · exact h2 z h4
          · rw [List.mem_singleton.1 h4]; exact h3
        · rintro ⟨h1, h2⟩
          exact ⟨⟨h1, fun z hz => h2 z (by simp [hz])⟩, h2 y (by simp)⟩)
      have hzr4 : w1.heap.size + 1 ≤ w4.heap.size := by omega
      have HB5 := Lib.hid (show Below w4.heap.size w4 (w4.alloc (.cells #[.string ⟨y.1.toArray⟩, .int .i64 y.2.1, .int .i64 y.2.2.1, .int .i64 y.2.2.2] 26)) from (Below.refl _ _).alloc (Nat.le_refl _) _)
      have c0 := cell_keep_alloc (.cells #[.string ⟨y.1.toArray⟩, .int .i64 y.2.1, .int .i64 y.2.2.1, .int .i64 y.2.2.2] 26) (cell_keep HB4.out HM0.out)
      have c1 := cell_keep_alloc (.cells #[.string ⟨y.1.toArray⟩, .int .i64 y.2.1, .int .i64 y.2.2.1, .int .i64 y.2.2.2] 26) (cell_keep HB4.out HM1.out)
      have c2 := cell_keep_alloc (.cells #[.string ⟨y.1.toArray⟩, .int .i64 y.2.1, .int .i64 y.2.2.1, .int .i64 y.2.2.2] 26) (cell_keep HB4.out HM2.out)
      have c3 := cell_keep_alloc (.cells #[.string ⟨y.1.toArray⟩, .int .i64 y.2.1, .int .i64 y.2.2.1, .int .i64 y.2.2.2] 26) (cell_keep HB4.out HM3.out)
      clear hrun hen hR4 hg4 hf HR HB hSm hz4 HP hmS hmV
      cases p
      · have HP2 := Lib.hid (HPS.out false (by simp))
        clear HPS
        go_wp2
        go_roundg cnt'
        case measure => exact hlt4
        case rel => exact ⟨V ++ [y], false, rfl, HV4, Lib.hid (R4.out.below HB5.out), HP2, Lib.hid (HB4.out.trans (HB5.out.mono HB4.out.size)), by have := HB5.out.size; omega⟩
      · by_cases hp : y.1 = m.1
        · have hp1 : (y.1 == m.1) = true := by rw [hp]; exact beq_self_eq_true _
          have hp2 : (y.1 != m.1) = false := by rw [hp]; simp
          have HPP := Lib.hid hp
          have cC0 := fun W => Compare_any y.2.1 y.2.2.1 y.2.2.2 m.2.1 m.2.2.1 m.2.2.2 W
          have hvc : vcmp y.2.1 y.2.2.1 y.2.2.2 m.2.1 m.2.2.1 m.2.2.2 = vcmpV y.2 m.2 := rfl
          rw [hvc] at cC0
          generalize vcmpV y.2 m.2 = d at cC0 HPS
          have cC := Lib.hid cC0
          clear hp hvc cC0
          go_wp2_with fail
          refine (cC.out _).mono ?_
          rintro e w8 ⟨rfl, hb8⟩
          have HB8 := Lib.hid (HB5.out.trans (hb8.toBelow.mono (by simp)))
          clear hb8 cC
          go_wp2
          go_roundg cnt'
          case measure => exact hlt4
          case rel => exact ⟨V ++ [y], decide (d ≤ 0), rfl, HV4, Lib.hid (R4.out.below HB8.out), Lib.hid (HPS.out _ (by simp [HPP.out])), Lib.hid (HB4.out.trans (HB8.out.mono HB4.out.size)), by have := HB8.out.size; omega⟩
        · have hp1 : (y.1 == m.1) = false := beq_eq_false_iff_ne.2 hp
          have hp2 : (y.1 != m.1) = true := bne_iff_ne.2 hp
          have HPP := Lib.hid hp
          clear hp
          go_wp2
          go_roundg cnt'
          case measure => exact hlt4
          case rel => exact ⟨V ++ [y], true, rfl, HV4, Lib.hid (R4.out.below HB5.out), Lib.hid (HPS.out true (by simp [HPP.out])), Lib.hid (HB4.out.trans (HB5.out.mono HB4.out.size)), by have := HB5.out.size; omega⟩
end Go.Proofs.YtfiilbdkhelhgaaDoor
