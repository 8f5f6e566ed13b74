/- The law VendorVerifies holds of every root, list of releases and lock of bulk at most 1048576: the tied card of the second form. No condition beside the row's own. -/
import Derived.Test.YthcgihgajdjfoaaGreatDoorV44
import Derived.Test.YthcgihgajdjfoaaGreatDoorV37
import Derived.Test.YthcgihgajdjfoaaGreatDoorV48
import Derived.BigQuiet
namespace Go.Proofs.YthcgihgajdjfoaaGreatDoor.lawVerifies
open Go.ChangeShapes Go.WideShapes Go.ChangeAt Go.RowKit
open Go.ChangeMaps (open_string shut_string)

set_option maxRecDepth 100000 in
theorem frame33_f7c1b3e5e7 {Q : Exit → Act → World → Prop} {W : World} {fs : List Fact} (t0 t1 t2 t3 t4 t5 t6 t7 t8 t9 t10 t11 t12 t13 t14 t15 t16 t17 t18 t19 t20 t21 t22 t23 t24 t25 t26 t27 t28 t29 t30 t31 t32 v0 v1 v2 v3 v4 v5 v6 v7 v8 v9 v10 v11 v12 : Value) (h : Q .normal (Act.mk #[t0, t1, t2, t3, t4, t5, v12, t7, t8, t9, t10, t11, t12, t13, t14, t15, t16, t17, t18, t19, t20, v0, v1, v2, v3, v4, v5, v6, v7, v8, v9, v10, v11] []) W) : FinAll W (fun A => Q .normal A W) [] fs (Act.put (Act.put (Act.put (Act.put (Act.put (Act.put (Act.put (Act.put (Act.put (Act.put (Act.put (Act.put (Act.put (Act.mk #[t0, t1, t2, t3, t4, t5, t6, t7, t8, t9, t10, t11, t12, t13, t14, t15, t16, t17, t18, t19, t20, t21, t22, t23, t24, t25, t26, t27, t28, t29, t30, t31, t32] []) (some 21) v0) (some 22) v1) (some 23) v2) (some 24) v3) (some 25) v4) (some 26) v5) (some 27) v6) (some 28) v7) (some 29) v8) (some 30) v9) (some 31) v10) (some 32) v11) (some 6) v12) :=
  fin_end (by kernel_rfl) h
set_option maxRecDepth 100000 in
set_option maxHeartbeats 4000000 in
theorem walk (y0 : ManW) (A : Option Addr) (c : Nat) (L : List RelA) (s : List UInt8) (w : World) (hO1 : inW w 1048576 y0) (hS : Sl w w.heap.size 6 encR A L) (hO : ∀ r ∈ L, inR w 1048576 r) (_hl : L.length ≤ 1099511627776) (hls : s.length ≤ 1048576) (hG : Glob w) :
    Calls Tryz.prog 6 #[.agg (encW y0).toArray, .slice A L.length c, .string ⟨s.toArray⟩] w fun e w' => e = .returned (.bool true) ∧ Below w.heap.size w w' := by
  have HS := Lib.hid hS
  have HO := Lib.hid hO
  have H1 := Lib.hid hO1
  have HG := Lib.hid hG
  clear hS hO hG _hl hO1
  have HB0 := Lib.hid (show Below w.heap.size w (w.alloc (.cells (encW y0).toArray 29)) from (Below.refl _ _).alloc (Nat.le_refl _) _)
  have Q0 := Lib.hid (Blk.new w 29 (encW y0).toArray)
  have cS := Lib.hid (fun W (hW : Below w.heap.size w W) => smallL_any A c L W ((HS.out.below hW).more hW.size) fun r hr => (HO.out r hr).ok.below hW)
  have cM := Lib.hid (fun W (hW : Below w.heap.size w W) => smallMan_any y0.1 y0.2.1 y0.2.2.1 y0.2.2.2 W ((H1.out.2.1.below hW).more hW.size))
  have hs47 : s.length ≤ 140737488355327 := by omega
  have HL := Lib.hid (fun (h : smallL L) (h1 : smallM y0.1 y0.2.2.2) => show (rdiffP (L.map RelA.rel) (unlockP s).1).length ≤ sortCap2 ∧ (outR y0.1.1 y0.2.2.2 (L.map RelA.rel)).length ≤ sortCap2 ∧ (verifyP y0.1.1 y0.2.2.2 (L.map RelA.rel) s).length ≤ 1099511627776 from by
    have hl10 : (L.map RelA.rel).length ≤ 10 := by rw [List.length_map]; exact h.1
    have h2 := rdiff_len (L.map RelA.rel) (unlockP s).1
    have h3 := (unlock_inv s).2.2
    have h4 := out_len y0.1.1 y0.2.2.2 (L.map RelA.rel)
    have h5 := reqs_len (rl := y0.2.2.2) (Nat.le_trans h1.n (by decide)) (L := L.map RelA.rel) fun r hr => by
      obtain ⟨q, hq, rfl⟩ := List.mem_map.1 hr
      exact Nat.le_trans (h.2 q hq).m.n (by decide)
    have h6 := verify_len y0.1.1 y0.2.2.2 (L.map RelA.rel) s
    unfold sortCap2
    refine ⟨by omega, by omega, by omega⟩)
  have cV := Lib.hid (fun (h : smallL L) (h1 : smallM y0.1 y0.2.2.2) W (hW : Below w.heap.size w W) => VerifyC_any sortsI_many y0 A c L s W ((((h1.manOk H1.out).keep hW).more hW.size)).manS ((HS.out.below hW).more hW.size) (fun r hr => ((h.rels HO.out r hr).below hW).relM) ((h1.manOk H1.out).mods) (Nat.le_trans h.1 (by decide)) hs47 (HG.out.keep hW) (HL.out h h1).1 fun _ => (HL.out h h1).2.1)
  have cR := Lib.hid (fun (h : smallL L) (h1 : smallM y0.1 y0.2.2.2) W (hW : Below w.heap.size w W) => refVerify_any y0 A c L s W ((((h1.manOk H1.out).keep hW).more hW.size)).manS ((HS.out.below hW).more hW.size) (fun r hr => ⟨((HO.out r hr).relB).below hW, Nat.le_trans (h.2 r hr).m.n (by decide)⟩) (Nat.le_trans h.1 (by decide)) hs47 (unlock_inv s).2.2)
  have HVl := Lib.hid (fun h h1 => (HL.out h h1).2.2)
  have cX := Lib.hid (fun W (hW : Below w.heap.size w W) => awake_any W (HG.out.keep hW))
  clear HL hls
  obtain ⟨rm, A0, c0, l0⟩ := y0
  simp only at cS cM cV cR HVl
  generalize smallL L = P at cS cV cR HVl
  generalize smallM rm l0 = P1 at cM cV cR HVl
  generalize verifyP rm.1 l0 (L.map RelA.rel) s = V at cV cR HVl
  unfold RetSm at cS cM
  unfold RetI at cV cR
  simp only [encW] at Q0 HB0 ⊢
  go_enter Tryz.func6, Tryz.ntmps6
  go_wp2_with fail
  refine (cS.out _ HB0.out).mono ?_
  rintro e w1 ⟨b, rfl, hbi, hb1⟩
  have HB1 := Lib.hid (HB0.out.trans (hb1.mono HB0.out.size))
  have Q1 := Lib.hid (Q0.out.keep hb1)
  have HBI := Lib.hid hbi
  clear hb1 hbi cS
  cases b
  · go_wp2_with fail
    refine (cX.out _ HB1.out).mono ?_
    rintro e w2 ⟨rfl, hb2⟩
    have HB2 := Lib.hid (HB1.out.trans (hb2.mono HB1.out.size))
    clear hb2 cX
    go_wp2
    go_ret
    exact ⟨rfl, HB2.out⟩
  have HP := Lib.hid (show P from HBI.out rfl)
  clear HBI
  obtain ⟨y0, y1, y2, y3, y4⟩ := manC Q1.out
  go_wp2_with fail
  refine (cM.out _ HB1.out).mono ?_
  rintro e w1' ⟨b, rfl, hbi, hb1'⟩
  have HB1' := Lib.hid (HB1.out.trans (hb1'.mono HB1.out.size))
  have Q1' := Lib.hid (Q1.out.keep hb1')
  have HBI := Lib.hid hbi
  clear hb1' hbi cM y0 y1 y2 y3 y4
  cases b
  · go_wp2_with fail
    refine (cX.out _ HB1'.out).mono ?_
    rintro e w2 ⟨rfl, hb2⟩
    have HB2 := Lib.hid (HB1'.out.trans (hb2.mono HB1'.out.size))
    clear hb2 cX
    go_wp2
    go_ret
    exact ⟨rfl, HB2.out⟩
  have HP1 := Lib.hid (show P1 from HBI.out rfl)
  clear HBI
  by_cases h6 : (600 : Int) < (s.length : Int)
  · have h6d := decide_eq_true h6
    go_wp2_with fail
    refine (cX.out _ HB1'.out).mono ?_
    rintro e wz ⟨rfl, hbz⟩
    have HBz := Lib.hid (HB1'.out.trans (hbz.mono HB1'.out.size))
    clear hbz cX
    go_wp2
    go_ret
    exact ⟨rfl, HBz.out⟩
  have h6d := decide_eq_false h6
  have h6' : (s.length : Int) ≤ 600 := by omega
  obtain ⟨y0, y1, y2, y3, y4⟩ := manC Q1'.out
  have hz0 : w.heap.size < w1'.heap.size := Q1'.out.lt
  have cV := Lib.hid (cV.out HP.out HP1.out)
  have cR := Lib.hid (cR.out HP.out HP1.out)
  have HVl := Lib.hid (HVl.out HP.out HP1.out)
  have HBq := HB1'
  generalize hwq : w1' = wq at HBq y0 y1 y2 y3 y4 hz0 ⊢
  clear hwq
  go_upto_region 3 with fail
  apply wp_region_facts (by kernel_rfl) [isv _, isv _, isv _, (fun v W => ∃ (A : Option Addr) (c : Nat), v = .slice A V.length c ∧ Sl W W.heap.size 2 encI A V), isv _, isv _, isv _, (fun v W => ∃ (A : Option Addr) (c : Nat), v = .slice A V.length c ∧ Sl W W.heap.size 2 encI A V), isv _, isv _, isv _, isv _, isv _] wq.heap.size wq (Nat.le_refl _) (Below.refl _ _).drew (by kernel_rfl) (by kernel_rfl) (by kernel_rfl) (And.intro (isv_mono _) (And.intro (isv_mono _) (And.intro (isv_mono _) (And.intro (fun _ _ _ ⟨A, c, e, h1⟩ hb => ⟨A, c, e, (h1.below hb).more hb.size⟩) (And.intro (isv_mono _) (And.intro (isv_mono _) (And.intro (isv_mono _) (And.intro (fun _ _ _ ⟨A, c, e, h1⟩ hb => ⟨A, c, e, (h1.below hb).more hb.size⟩) (And.intro (isv_mono _) (And.intro (isv_mono _) (And.intro (isv_mono _) (And.intro (isv_mono _) (And.intro (isv_mono _) trivial))))))))))))) ?steps (by rfl) ?fin
  case steps =>
    refine (And.intro ?o0 (And.intro ?o1 (And.intro ?o2 (And.intro ?o3 (And.intro ?o4 (And.intro ?o5 (And.intro ?o6 (And.intro ?o7 (And.intro ?o8 (And.intro ?o9 (And.intro ?o10 (And.intro ?o11 (And.intro ?o12 trivial)))))))))))))
    case o0 =>
      intro AA W KK QQ hB hs hd hl hk
      have sl3 := hs 3 _ (by kernel_rfl) rfl
      clear hs hd hl
      have hx0 := hB.cell (p := ⟨w.heap.size, 0, none⟩) hz0
      have hx1 := hB.cell (p := ⟨w.heap.size, 1, none⟩) hz0
      have hx2 := hB.cell (p := ⟨w.heap.size, 2, none⟩) hz0
      have hx3 := hB.cell (p := ⟨w.heap.size, 3, none⟩) hz0
      have hx4 := hB.cell (p := ⟨w.heap.size, 4, none⟩) hz0
      rw [y0] at hx0
      rw [y1] at hx1
      rw [y2] at hx2
      rw [y3] at hx3
      rw [y4] at hx4
      go_simp
      exact hk _ _ rfl (Below.refl _ _)
    case o1 =>
      intro AA W KK QQ hB hs hd hl hk
      have sl1 := hs 1 _ (by kernel_rfl) rfl
      clear hs hd hl
      go_simp
      exact hk _ _ rfl (Below.refl _ _)
    case o2 =>
      intro AA W KK QQ hB hs hd hl hk
      have sl2 := hs 2 _ (by kernel_rfl) rfl
      clear hs hd hl
      go_simp
      exact hk _ _ rfl (Below.refl _ _)
    case o3 =>
      intro AA W KK QQ hB hs hd hl hk
      obtain ⟨_, sl21, rfl⟩ := hd 0 21 (by kernel_rfl) rfl
      obtain ⟨_, sl22, rfl⟩ := hd 1 22 (by kernel_rfl) rfl
      obtain ⟨_, sl23, rfl⟩ := hd 2 23 (by kernel_rfl) rfl
      clear hs hd hl
      go_simp
      refine (cV.out W (HBq.out.trans (hB.mono HBq.out.size))).mono ?_
      rintro e W2 ⟨A9, c9, rfl, _, hS9, hb2⟩
      exact hk _ _ ⟨_, _, rfl, hS9⟩ hb2
    case o4 =>
      intro AA W KK QQ hB hs hd hl hk
      have sl3 := hs 3 _ (by kernel_rfl) rfl
      clear hs hd hl
      have hx0 := hB.cell (p := ⟨w.heap.size, 0, none⟩) hz0
      have hx1 := hB.cell (p := ⟨w.heap.size, 1, none⟩) hz0
      have hx2 := hB.cell (p := ⟨w.heap.size, 2, none⟩) hz0
      have hx3 := hB.cell (p := ⟨w.heap.size, 3, none⟩) hz0
      have hx4 := hB.cell (p := ⟨w.heap.size, 4, none⟩) hz0
      rw [y0] at hx0
      rw [y1] at hx1
      rw [y2] at hx2
      rw [y3] at hx3
      rw [y4] at hx4
      go_simp
      exact hk _ _ rfl (Below.refl _ _)
    case o5 =>
      intro AA W KK QQ hB hs hd hl hk
      have sl1 := hs 1 _ (by kernel_rfl) rfl
      clear hs hd hl
      go_simp
      exact hk _ _ rfl (Below.refl _ _)
    case o6 =>
      intro AA W KK QQ hB hs hd hl hk
      have sl2 := hs 2 _ (by kernel_rfl) rfl
      clear hs hd hl
      go_simp
      exact hk _ _ rfl (Below.refl _ _)
    case o7 =>
      intro AA W KK QQ hB hs hd hl hk
      obtain ⟨_, sl25, rfl⟩ := hd 4 25 (by kernel_rfl) rfl
      obtain ⟨_, sl26, rfl⟩ := hd 5 26 (by kernel_rfl) rfl
      obtain ⟨_, sl27, rfl⟩ := hd 6 27 (by kernel_rfl) rfl
      clear hs hd hl
      go_simp
      refine (cR.out W (HBq.out.trans (hB.mono HBq.out.size))).mono ?_
      rintro e W2 ⟨A9, c9, rfl, _, hS9, hb2⟩
      exact hk _ _ ⟨_, _, rfl, hS9⟩ hb2
    case o8 =>
      intro AA W KK QQ hB hs hd hl hk
      obtain ⟨_, sl24, ⟨Aa, ca, rfl, hSa⟩⟩ := hd 3 24 (by kernel_rfl) rfl
      obtain ⟨_, sl28, ⟨Ab, cb, rfl, hSb⟩⟩ := hd 7 28 (by kernel_rfl) rfl
      clear hs hd hl
      go_simp
      refine (samI_any _ _ _ _ V W hSa hSb HVl.out).mono ?_
      rintro e W2 ⟨rfl, hb2⟩
      exact hk _ _ rfl hb2
    case o9 =>
      intro AA W KK QQ hB hs hd hl hk
      obtain ⟨_, sl29, rfl⟩ := hd 8 29 (by kernel_rfl) rfl
      clear hs hd hl
      go_simp
      exact hk _ _ rfl (Below.refl _ _)
    case o10 =>
      intro AA W KK QQ hB hs hd hl hk
      obtain ⟨_, sl30, rfl⟩ := hd 9 30 (by kernel_rfl) rfl
      clear hs hd hl
      refine ⟨_, _, rfl, sl30, ?_⟩
      change Oper.wp _ _ _ _ _ _
      go_simp
      refine (cX.out W (HBq.out.trans (hB.mono HBq.out.size))).mono ?_
      rintro e W2 ⟨rfl, hb2⟩
      exact hk _ _ rfl hb2
    case o11 =>
      intro AA W KK QQ hB hs hd hl hk
      obtain ⟨_, sl30, rfl⟩ := hd 9 30 (by kernel_rfl) rfl
      obtain ⟨_, sl31, rfl⟩ := hd 10 31 (by kernel_rfl) rfl
      clear hs hd hl
      go_simp
      exact hk _ _ rfl (Below.refl _ _)
    case o12 =>
      intro AA W KK QQ hB hs hd hl hk
      obtain ⟨_, sl32, rfl⟩ := hd 11 32 (by kernel_rfl) rfl
      clear hs hd hl
      go_simp
      exact hk _ _ rfl (Below.refl _ _)
  case fin =>
    intro wf hB
    refine fin_isv 21 rfl ?_
    refine fin_isv 22 rfl ?_
    refine fin_isv 23 rfl ?_
    refine fin_fact 24 rfl ?_
    rintro _ ⟨_, _, rfl, _⟩
    refine fin_isv 25 rfl ?_
    refine fin_isv 26 rfl ?_
    refine fin_isv 27 rfl ?_
    refine fin_fact 28 rfl ?_
    rintro _ ⟨_, _, rfl, _⟩
    refine fin_isv 29 rfl ?_
    refine fin_isv 30 rfl ?_
    refine fin_isv 31 rfl ?_
    refine fin_isv 32 rfl ?_
    refine fin_isv 6 rfl ?_
    refine frame33_f7c1b3e5e7 _ _ _ _ _ _ _ _ _ _ _ _ _ _ _ _ _ _ _ _ _ _ _ _ _ _ _ _ _ _ _ _ _ _ _ _ _ _ _ _ _ _ _ _ _ _ ?_
    have HBz := Lib.hid (HBq.out.trans (hB.mono HBq.out.size))
    go_wp2
    go_ret
    exact ⟨rfl, HBz.out⟩

set_option maxRecDepth 100000 in
theorem contract (H : Type) (enc : TypeId × Value → H) (W : World) (base : Nat) (args : Array Value) (ds gs : List (DataW H)) (before : List MemPlace)
    (hval : ∀ (j : Nat) t v, Tryz.f6.params[j]? = some t → args[j]? = some v → Value.okWide Tryz.prog W .any base t v)
    (hW : DataW.Whole enc Tryz.prog Tryz.f6.params.toList Rows.vendorVerifiesSpec.vars false W args.toList ds gs before) (hk : Rows.uptoSmall H (ds ++ gs) = true) (hG : Glob W) :
    Calls Tryz.prog 6 args W fun e W' => ∃ v, e = .returned v ∧ Rows.vendorVerifiesSpec.post enc Tryz.prog Tryz.f6 false true false false W args v W' := by
  have hW' := hW
  obtain ⟨p, q, hA0, hV, rfl, hfz, hnd⟩ := hW
  have hA : DataW.TrodAll enc Tryz.prog W 0 (fun _ => true) true Tryz.f6.params.toList args.toList ds p := hA0
  rw [Tryz.params6] at hA hval
  obtain ⟨v0, vs0, d0, ds0, p0, q0, hargs, rfl, rfl, h0, r0⟩ := trodAll_cons hA
  obtain ⟨v1, vs1, d1, ds1, p1, q1, rfl, rfl, rfl, h1, r1⟩ := trodAll_cons r0
  obtain ⟨v2, vs2, d2, ds2, p2, q2, rfl, rfl, rfl, h2, r2⟩ := trodAll_cons r1
  obtain ⟨rfl, rfl, rfl⟩ := trodAll_nil r2
  obtain rfl : args = #[v0, v1, v2] := by cases args; simp_all
  obtain ⟨rfl, rfl⟩ := trodVars_none hV
  obtain ⟨r0x, rfl, hO0⟩ := open_st Tryz.underlying29 (opens_manifest W 1048576) (hval 0 29 v0 rfl rfl) h0 (by have := bulk_of hk; simp only [List.append_nil, Rows.uptoBulkAll] at this; omega)
  obtain ⟨A1, c1, L1, rfl, hS1, hO1, _, hN1⟩ := open_sl Tryz.underlying22 (opens_releases W 1048576 (by decide)) (hval 1 22 v1 rfl rfl) h1 (by have := bulk_of hk; simp only [List.append_nil, Rows.uptoBulkAll] at this; omega)
  have hl1 : L1.length ≤ 1099511627776 := by omega
  obtain ⟨s2, rfl, rfl, rfl, hmax2⟩ := open_string Tryz.underlying9 (hval 2 9 v2 rfl rfl) h2
  have hl2 : s2.data.toList.length ≤ 1048576 := by have := bulk_of hk; simp only [List.append_nil, Rows.uptoBulkAll, Rows.uptoBulk] at this; omega
  clear hA0
  have hw := walk r0x A1 c1 L1 s2.data.toList W hO0 hS1 hO1 hl1 hl2 hG
  refine hw.mono fun e W' ⟨he, hb⟩ => ?_
  subst he
  exact ⟨_, rfl, law_post hW' rfl (by kernel_rfl) (by kernel_rfl) rfl rfl rfl hb⟩

set_option maxRecDepth 100000 in
theorem reads (os : Os) {H : Type} (enc : TypeId × Value → H) : ∃ places, DataW.whole enc Tryz.prog ((laidWorld os).forCall (fun _ _ => 0) ⟨#[], #[.agg #[.string ByteArray.empty, .int .i64 0, .int .i64 0, .int .i64 0, .slice none 0 0], .slice none 0 0, .string ByteArray.empty], []⟩).memory Tryz.f6.params.toList Rows.vendorVerifiesSpec.vars false (#[.agg #[.string ByteArray.empty, .int .i64 0, .int .i64 0, .int .i64 0, .slice none 0 0], .slice none 0 0, .string ByteArray.empty] : Array Value).toList 8 = some ([.agg [.agg [.lit (.string []), .agg [.lit (.int .i64 0), .lit (.int .i64 0), .lit (.int .i64 0)]], .nil], .nil, .lit (.string [])], [], places) :=
  ⟨[], by kernel_rfl⟩

set_option maxRecDepth 100000 in
theorem lifted (os : Os) (started : os.Started) (H : Type) (enc : TypeId × Value → H) (F : Stop.Interp) :
    ReturnsInHanded {} Tryz.checked os 6 .any ((Rows.OpenSpec.upto Rows.vendorVerifiesSpec).preRow enc Tryz.prog Tryz.f6 Rows.vendorVerifiesUptoRow.domain false Rows.vendorVerifiesUptoRow.laid) (((Rows.OpenSpec.upto Rows.vendorVerifiesSpec).at F).post enc Tryz.prog Tryz.f6 false true false false) := by
  obtain ⟨places, hx⟩ := reads os enc
  refine returnsInHanded_of_row (C := Tryz.checked) (s := Rows.OpenSpec.upto Rows.vendorVerifiesSpec) own started (by kernel_rfl) Tryz.func6
    (witness_row_at (enc := enc) (C := Tryz.checked) false (laidWorld os) #[.agg #[.string ByteArray.empty, .int .i64 0, .int .i64 0, .int .i64 0, .slice none 0 0], .slice none 0 0, .string ByteArray.empty] (World.laidAll_os _ _ _) (by kernel_rfl) (by kernel_rfl) (by kernel_rfl)
      (OpenSpec.preRow_of_cond 8 hx (by kernel_rfl) (fun k hk => by cases hk; kernel_rfl) (by kernel_rfl) (laid_met os _))) ?_
  intro W base args ds gs before hval hW _ hcond _ hL hsh _
  exact contract H enc W base args ds gs before hval hW (hcond _ rfl) (glob_of hL hsh)


set_option maxRecDepth 100000 in
theorem pf_inPlace : (Rows.vendorVerifiesUptoRow.inPlace == Tryz.pinned.checked.prog.inPlace 6) = true := by kernel_rfl
set_option maxRecDepth 100000 in
theorem pf_unf : (Rows.vendorVerifiesUptoRow.unfollowed == Tryz.pinned.checked.prog.unfollowed 6) = true := by kernel_rfl
set_option maxRecDepth 100000 in
theorem pf_rec : (Rows.vendorVerifiesUptoRow.recurses == Tryz.pinned.checked.prog.recurses 6) = true := by kernel_rfl
set_option maxRecDepth 100000 in
theorem pf_named : (Rows.vendorVerifiesUptoRow.named == Tryz.pinned.checked.prog.varsNamed 6) = true := by kernel_rfl
set_option maxRecDepth 100000 in
theorem pf_closed : joinedFacts Tryz.pinned.checked.prog 6 Tryz.f6 (Rows.OpenSpec.upto Rows.vendorVerifiesSpec).bare Rows.vendorVerifiesUptoRow = true := by
  unfold joinedFacts
  exact (and2 (and2 (and2 (and2 (and2 (and2 (and2 (and2 (and2 (and2 (and2 (and2 (and2 (and2 (and2 (and2 (and2 (and2 (and2 (and2 (and2 (and2 (and2 (and2 (and2 (and2 (and2 (and2 (and2 (and2 (and2 (by kernel_rfl) pf_laid) pf_rowed) (by kernel_rfl)) (by kernel_rfl)) (by kernel_rfl)) (by kernel_rfl)) (by kernel_rfl)) (by kernel_rfl)) pf_inPlace) pf_unf) pf_rec) pf_named) (by kernel_rfl)) (by kernel_rfl)) (by kernel_rfl)) (by kernel_rfl)) (by kernel_rfl)) (by kernel_rfl)) (by kernel_rfl)) (by kernel_rfl)) (by kernel_rfl)) (by kernel_rfl)) (by kernel_rfl)) pf_heard) pf_enter) (pf_lifts Rows.vendorVerifiesUptoRow rfl)) (pf_make Rows.vendorVerifiesUptoRow rfl)) (by kernel_rfl)) (by kernel_rfl)) (by kernel_rfl)) (by kernel_rfl))

set_option maxRecDepth 100000 in
theorem said : Rows.VendorVerifiesUptoSaid :=
  OpenClaim.holds_of_cond 6 Tryz.f6 rfl rfl rfl rfl rfl rfl rfl ⟨rfl, rfl, rfl, rfl, rfl⟩ rfl rfl rfl rfl rfl (by kernel_rfl) Tryz.func6 pf_closed
    (of_decide_eq_true (by kernel_rfl)) (by unfold Func.isWrapper; first | (rw [if_pos (by decide +kernel)]; kernel_rfl) | (rw [if_neg (by decide +kernel)]; exact ⟨rfl, rfl⟩))
    (fun os started H enc _ F => by rw [OpenClaim.pre_eq_preRow]; exact lifted os started H enc F)

set_option maxRecDepth 100000 in
theorem plain (f : FuncId) (fn : Func) (hf : Tryz.pinned.checked.prog.funcNamed "configlang/configlanglaw48.VendorVerifies" = some f) (hfn : Tryz.pinned.checked.prog.funcs[f]? = some fn) :
    true = Tryz.pinned.checked.prog.looks [] ∧ ∀ (j : Nat) t, fn.params[j]? = some t → Tryz.pinned.checked.prog.wantsStandIn t = false := by
  obtain rfl : f = 6 := Option.some.inj ((show Tryz.prog.funcNamed "configlang/configlanglaw48.VendorVerifies" = some 6 by kernel_rfl).symm.trans hf) |>.symm
  obtain rfl : fn = Tryz.f6 := (Option.some.inj (Tryz.func6.symm.trans hfn)).symm
  refine ⟨by kernel_rfl, fun j t ht => ?_⟩
  rw [Tryz.params6] at ht
  have hm : t = 29 ∨ t = 22 ∨ t = 9 := by simpa using Array.mem_of_getElem? ht
  rcases hm with rfl | rfl | rfl
  · exact (show Tryz.prog.wantsStandIn 29 = false by kernel_rfl)
  · exact (show Tryz.prog.wantsStandIn 22 = false by kernel_rfl)
  · exact (show Tryz.prog.wantsStandIn 9 = false by kernel_rfl)

set_option maxRecDepth 100000 in
theorem card : Rows.VendorVerifiesUptoCardSaid :=
  Claim7.holds_tied_plain_at .later [] _ _ _ _ said (fun _ h => by cases h) (by kernel_rfl) (fun _ h => by cases h) vendorVerifiesUpto_row_tie rfl ⟨rfl, rfl⟩ (by kernel_rfl) rfl plain (by kernel_rfl)
end Go.Proofs.YthcgihgajdjfoaaGreatDoor.lawVerifies
