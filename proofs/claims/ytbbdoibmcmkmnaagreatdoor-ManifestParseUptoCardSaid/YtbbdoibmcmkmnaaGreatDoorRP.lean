/- Walk: the manifest that a text describes, or the fault, by the document (ref44.Parse). -/
import Derived.Test.YtbbdoibmcmkmnaaGreatDoorRL
import Derived.Test.YtbbdoibmcmkmnaaGreatDoorRM
import Derived.Test.YtbbdoibmcmkmnaaGreatDoorWPF
import Derived.Test.YtbbdoibmcmkmnaaGreatDoorMP
namespace Go.Proofs.YtbbdoibmcmkmnaaGreatDoor
open Go.RowKit Go.Sort

def manB (m : Mod) (A : Option Addr) (n c : Nat) : Array Value := #[.string ⟨m.1.toArray⟩, .int .i64 m.2.1, .int .i64 m.2.2.1, .int .i64 m.2.2.2, .slice A n c]
theorem grownS (W : World) (p : Addr) (v : Value) : W.grownBy (W.setCell p v) (some p.block) := ⟨rfl, rfl, rfl, by simp [World.setCell], fun k _ hk => Below.heap_setCell W p v k (fun e => hk (by rw [e]))⟩
theorem ownsP {W : World} {base : Nat} {e : TypeId} {size : Nat} {v : Value} {k : Nat} {xs : List Value} (h : W.ownsRow base e size v k xs) (hk : 0 < k) : ∃ g cap, v = .slice (some ⟨g, 0, none⟩) k cap := by
  rcases h.2 with ⟨_, h0⟩ | ⟨g, cap, _, rfl, _⟩
  · omega
  · exact ⟨g, cap, rfl⟩
theorem ret_man {w w' : World} {r : MRes} {m : Mod} {l : List Mod} {q N : Int} {n : Nat} {A : Option Addr} {c k : Nat} (h : r = ((m, l), q, n)) (hk : k = l.length) (hn : N = (n : Int)) (hS : Sl w' w'.heap.size 4 encM A l) (hb : Below w.heap.size w w') :
    RetMan w r (.returned (.tuple #[.agg #[.string ⟨m.1.toArray⟩, .int .i64 m.2.1, .int .i64 m.2.2.1, .int .i64 m.2.2.2, .slice A k c], .agg #[.int .i64 q, .int .i64 N]])) w' := by
  subst h hk hn
  exact ⟨A, c, rfl, hS, hb⟩
theorem ret_flt {w w' : World} {r : MRes} {q N : Int} {n : Nat} (h : r = ((zeroM, []), q, n)) (hn : N = (n : Int)) (hb : Below w.heap.size w w') :
    RetMan w r (.returned (.tuple #[.agg #[.string ⟨#[]⟩, .int .i64 0, .int .i64 0, .int .i64 0, .slice none 0 0], .agg #[.int .i64 q, .int .i64 N]])) w' := ret_man h rfl hn Sl.nil_ hb
/-- what is stored into the results -/
theorem below7 {w W : World} (h : Below w.heap.size w W) (a0 a1 a2 a3 a4 b0 b1 : Value) : Below w.heap.size w (((((((W.setCell ⟨w.heap.size, 0, none⟩ a0).setCell ⟨w.heap.size, 1, none⟩ a1).setCell ⟨w.heap.size, 2, none⟩ a2).setCell ⟨w.heap.size, 3, none⟩ a3).setCell ⟨w.heap.size, 4, none⟩ a4).setCell ⟨w.heap.size + 1, 0, none⟩ b0).setCell ⟨w.heap.size + 1, 1, none⟩ b1) :=
  ((((((h.setCell (Nat.le_refl _) _).setCell (Nat.le_refl _) _).setCell (Nat.le_refl _) _).setCell (Nat.le_refl _) _).setCell (Nat.le_refl _) _).setCell (Nat.le_succ _) _).setCell (Nat.le_succ _) _
theorem sl7 {W : World} {n : Nat} {A : Option Addr} {l : List Mod} (h : Sl W W.heap.size 4 encM A l) (hA : ∀ a, A = some a → n + 2 ≤ a.block) (a0 a1 a2 a3 a4 b0 b1 : Value) (X : World) (hX : X = (((((((W.setCell ⟨n, 0, none⟩ a0).setCell ⟨n, 1, none⟩ a1).setCell ⟨n, 2, none⟩ a2).setCell ⟨n, 3, none⟩ a3).setCell ⟨n, 4, none⟩ a4).setCell ⟨n + 1, 0, none⟩ b0).setCell ⟨n + 1, 1, none⟩ b1)) : Sl X X.heap.size 4 encM A l := by
  have n0 : ∀ i, l = [] ∨ ∀ a, A = some a → a.block ≠ (⟨n, i, none⟩ : Addr).block := fun i => .inr fun a ha => by have := hA a ha; simp only; omega
  have n1 : ∀ i, l = [] ∨ ∀ a, A = some a → a.block ≠ (⟨n + 1, i, none⟩ : Addr).block := fun i => .inr fun a ha => by have := hA a ha; simp only; omega
  have hszz : ∀ (X : World) p u, (X.setCell p u).heap.size = X.heap.size := fun X p u => by simp [World.setCell]
  subst hX
  simp only [hszz]
  exact ((((((h.setCell _ _ (n0 _)).setCell _ _ (n0 _)).setCell _ _ (n0 _)).setCell _ _ (n0 _)).setCell _ _ (n0 _)).setCell _ _ (n1 _)).setCell _ _ (n1 _)
theorem own4 {W : World} {base e size n g : Nat} {v : Value} {xs : List Value} (h : W.ownsRow base e size v n xs) (a0 a1 a2 a3 : Value) (hg : g < base) : ((((W.setCell ⟨g, 0, none⟩ a0).setCell ⟨g, 1, none⟩ a1).setCell ⟨g, 2, none⟩ a2).setCell ⟨g, 3, none⟩ a3).ownsRow base e size v n xs := by
  have ne : v.ownBlock = none ∨ v.ownBlock ≠ some g := .inr (fun e => by have := (h.lt _ e).1; omega)
  exact (((h.kept (grownS W ⟨g, 0, none⟩ a0) ne).kept (grownS _ ⟨g, 1, none⟩ a1) ne).kept (grownS _ ⟨g, 2, none⟩ a2) ne).kept (grownS _ ⟨g, 3, none⟩ a3) ne
theorem linesP_mem (s : List UInt8) : ∀ x ∈ linesP s, x.length ≤ s.length := by
  intro x hx
  refine (splitL_len 10 s).2 x ?_
  unfold linesP at hx
  split at hx
  · exact (List.dropLast_sublist _).subset hx
  · exact hx

set_option maxRecDepth 100000 in
set_option maxHeartbeats 4000000 in
theorem refParse_any (s : List UInt8) (w : World) (hs : s.length ≤ 65536) :
    Calls Tryz.prog 21 #[.string ⟨s.toArray⟩] w (RetMan w (mparse s)) := by
  have d0 : ¬ (65536 : Int) < (s.length : Int) := by omega
  have hll := linesP_len s.length s (Nat.le_refl _)
  have hlm := linesP_mem s
  have cL := Lib.hid (fun W => refLines_any s W (by omega))
  have hbad : ∀ k (hk : k < (linesP s).length) l, colL (some []) (((linesP s).take k).map wordsL) = some l → stepL l (wordsL (linesP s)[k]) = none → mparse s = ((zeroM, []), 8, k + 1) := by
    intro k hk l h1 h2
    have h := mparse_bad (s := s) (by omega) (pre := ((linesP s).take k).map wordsL) (x := wordsL (linesP s)[k]) (r := ((linesP s).drop (k + 1)).map wordsL) (l := l) (by
      have e : (linesP s).take k ++ (linesP s)[k] :: (linesP s).drop (k + 1) = linesP s := by rw [← List.drop_eq_getElem_cons hk, List.take_append_drop]
      have e2 := congrArg (List.map wordsL) e
      rw [List.map_append, List.map_cons] at e2
      exact e2.symm) h1 h2
    rw [h]
    simp
    omega
  have hnone : colL (some []) ((linesP s).map wordsL) = some [] → mparse s = ((zeroM, []), 8, (linesP s).length + 1) := fun h => mparse_none (by omega) h
  have hok : ∀ m l, colL (some []) ((linesP s).map wordsL) = some (m :: l) → mparse s = if mcheck m l = 0 then ((m, msort l), 0, 0) else ((zeroM, []), mcheck m l, 0) := fun m l h => mparse_ok (by omega) h
  have hcol : ∀ k (hk : k < (linesP s).length), colL (some []) (((linesP s).take (k + 1)).map wordsL) = (colL (some []) (((linesP s).take k).map wordsL)).bind (stepL · (wordsL (linesP s)[k])) := by
    intro k hk
    rw [List.take_succ_eq_append_getElem hk, List.map_append]
    exact colL_snoc _ _ _
  have hlen : ∀ k l, colL (some []) (((linesP s).take k).map wordsL) = some l → l.length ≤ (linesP s).length ∧ ∀ x ∈ l, x.1.length ≤ 60 := by
    intro k l h
    have h1 := colL_len _ _ _ h
    have h2 := colL_paths _ _ _ h (by simp)
    refine ⟨?_, h2⟩
    simp at h1
    omega
  generalize mparse s = R at hbad hnone hok ⊢
  generalize linesP s = LS at hll hlm cL hbad hnone hok hcol hlen
  have HBAD := Lib.hid hbad
  have HNONE := Lib.hid hnone
  have HOK := Lib.hid hok
  have HCOL := Lib.hid hcol
  have HLEN := Lib.hid hlen
  have HLM := Lib.hid hlm
  clear hbad hnone hok hcol hlen hlm
  have b3 : Below w.heap.size w (((w.alloc (.cells (manB zeroM none 0 0) 28)).alloc (.cells #[.int .i64 0, .int .i64 0] 38)).alloc (.cells (manB zeroM none 0 0) 28)) := (((Below.refl _ _).alloc (Nat.le_refl _) _).alloc (by simp) _).alloc (by simp; omega) _
  have m0 := (Blk.new w 28 (manB zeroM none 0 0)).keep (((Below.refl _ _).alloc (Nat.le_refl _) (.cells #[.int .i64 0, .int .i64 0] 38)).alloc (by simp) (.cells (manB zeroM none 0 0) 28))
  have m1 := (Blk.new (w.alloc (.cells (manB zeroM none 0 0) 28)) 38 #[.int .i64 0, .int .i64 0]).keep ((Below.refl _ _).alloc (Nat.le_refl _) (.cells (manB zeroM none 0 0) 28))
  have m2 := Blk.new ((w.alloc (.cells (manB zeroM none 0 0) 28)).alloc (.cells #[.int .i64 0, .int .i64 0] 38)) 28 (manB zeroM none 0 0)
  have z3 : (((w.alloc (.cells (manB zeroM none 0 0) 28)).alloc (.cells #[.int .i64 0, .int .i64 0] 38)).alloc (.cells (manB zeroM none 0 0) 28)).heap.size = w.heap.size + 3 := by simp
  simp only [World.size_alloc, Nat.add_assoc, Nat.reduceAdd] at m1 m2
  have hmz : manB zeroM none 0 0 = #[.string ⟨#[]⟩, .int .i64 0, .int .i64 0, .int .i64 0, .slice none 0 0] := rfl
  rw [hmz] at m0 m1 m2 b3 z3
  generalize hR : RetMan w R = RR
  go_enter Tryz.func21, Tryz.ntmps21
  go_wp2_with fail
  generalize (((w.alloc (.cells #[.string ⟨#[]⟩, .int .i64 0, .int .i64 0, .int .i64 0, .slice none 0 0] 28)).alloc (.cells #[.int .i64 0, .int .i64 0] 38)).alloc (.cells #[.string ⟨#[]⟩, .int .i64 0, .int .i64 0, .int .i64 0, .slice none 0 0] 28)) = w0 at m0 m1 m2 b3 z3 ⊢
  refine (cL.out w0).mono ?_
  rintro e w1 ⟨A, c, rfl, hnew, hS, hb1⟩
  have M0 := Lib.hid (m0.keep hb1)
  have M1 := Lib.hid (m1.keep hb1)
  have M2 := Lib.hid (m2.keep hb1)
  have HB1 := Lib.hid (b3.trans (hb1.mono (by omega)))
  have hz1 := hb1.size
  have HNEW := Lib.hid (fun a (h : A = some a) => show w.heap.size + 3 ≤ a.block by have := hnew a h; omega)
  have SL := Lib.hid hS
  rw [z3] at hz1
  clear m0 m1 m2 b3 z3 hb1 hnew hS cL hmz
  go_wp2_with fail
  go_loopw [5, 23] (fun f i wr => ∃ (k : Nat) (q : Bool) (L : List Mod) (m : Mod) (l : List Mod) (A4 : Option Addr) (c4 : Nat), k ≤ LS.length ∧ f = .bool q ∧ i = .int .i64 (k : Nat) ∧ Hid (colL (some []) ((LS.take k).map wordsL) = some L) ∧ Hid ((q = false ∧ L = [] ∧ m = zeroM ∧ l = []) ∨ (q = true ∧ L = m :: l)) ∧ Hid (Blk wr w.heap.size 28 (manB zeroM none 0 0)) ∧ Hid (Blk wr (w.heap.size + 1) 38 #[.int .i64 0, .int .i64 0]) ∧ Hid (Blk wr (w.heap.size + 2) 28 (manB m A4 l.length c4)) ∧ Hid (wr.ownsRow w1.heap.size 25 4 (.slice A4 l.length c4) l.length (l.flatMap encM)) ∧ Hid (Sl wr w1.heap.size 1 encS A LS) ∧ w1.heap.size ≤ wr.heap.size ∧ Hid (Below w.heap.size w wr)) (fun _ i _ => LS.length - (intOf i).toNat)
  case atStart => exact ⟨0, false, [], zeroM, [], none, 0, Nat.zero_le _, rfl, rfl, Lib.hid rfl, Lib.hid (.inl ⟨rfl, rfl, rfl, rfl⟩), M0, M1, M2, Lib.hid (World.ownsRow_nil _ _ _ _), SL, Nat.le_refl _, HB1⟩
  case round =>
    obtain ⟨k, q, L, m, l, A4, c4, hk, rfl, rfl, HC, HQ, K0, K1, K2, HO, HS, hz, HB⟩ := hrel
    by_cases hlt : k < LS.length
    · have hlt' : (k : Int) < (LS.length : Int) := by omega
      obtain ⟨b, off, hA, hbB, g0⟩ := HS.out.str hlt
      have hxl := HLM.out _ (List.getElem_mem hlt)
      have HX := Lib.hid (show stepL L (wordsL LS[k]) = none → R = ((zeroM, []), 8, k + 1) from HBAD.out k hlt L HC.out)
      have HN := Lib.hid (show colL (some []) ((LS.take (k + 1)).map wordsL) = stepL L (wordsL LS[k]) by rw [HCOL.out k hlt, HC.out]; rfl)
      have hlL := HLEN.out k L HC.out
      generalize LS[k] = x at g0 hxl HX HN
      obtain ⟨hw1, hw2⟩ := wordsL_len x
      have cW := Lib.hid (fun W => refWords_any x W (by omega))
      generalize wordsL x = ws at cW HX HN hw1 hw2
      have HWS := Lib.hid (fun t (ht : t ∈ ws) => show t.length ≤ 65536 by have := hw2 t ht; omega)
      have HLL := Lib.hid hlL
      subst hA
      clear hw2 hlL
      go_wp2_with fail
      refine (cW.out _).mono ?_
      rintro e w2 ⟨A2, c2, rfl, hS2, hb2⟩
      have J0 := Lib.hid (K0.out.keep hb2)
      have J1 := Lib.hid (K1.out.keep hb2)
      have J2 := Lib.hid (K2.out.keep hb2)
      have JO := Lib.hid (own_below2 HO.out hb2)
      have JS := Lib.hid (HS.out.below (hb2.mono hz))
      have JB := Lib.hid (HB.out.trans (hb2.mono HB.out.size))
      have hz2 : w1.heap.size ≤ w2.heap.size := Nat.le_trans hz hb2.size
      have HS2 := Lib.hid hS2
      clear hb2 hS2 g0 hbB cW K0 K1 K2 HO HS HB
      by_cases hws : ws = []
      · have hn := Lib.hid (show colL (some []) ((LS.take (k + 1)).map wordsL) = some L by rw [HN.out, hws]; simp [stepL])
        subst hws
        clear HX HN
        go_wp2
        go_roundw
        case rel => exact ⟨k + 1, q, L, m, l, A4, c4, by omega, rfl, by go_num, hn, HQ, J0, J1, J2, JO, JS, hz2, JB⟩
        case measure => simp [intOf]; omega
      · have hwl : ¬ (ws.length : Int) = 0 := by have := List.length_pos_iff.2 hws; omega
        have HST := Lib.hid (show stepL L ws = (wordM (firstW L) ws).map fun m => L ++ [m] by unfold stepL; rw [if_neg hws])
        clear hws
        rcases HQ.out with ⟨rfl, rfl, rfl, rfl⟩ | ⟨rfl, rfl⟩
        · have cM := Lib.hid (refmodule_any A2 c2 ws wMod w2 HS2.out (by omega) HWS.out)
          have hfw : firstW [] = wMod := rfl
          rw [hfw] at HST
          clear hfw
          generalize wordM wMod ws = O at cM HST
          go_wp2_with fail
          refine cM.out.mono ?_
          rintro e w3 ⟨rfl, hb3⟩
          have J0' := Lib.hid (J0.out.keep hb3)
          have J1' := Lib.hid (J1.out.keep hb3)
          have J2' := Lib.hid (J2.out.keep hb3)
          have JO' := Lib.hid (own_below2 JO.out hb3)
          have JS' := Lib.hid (JS.out.below (hb3.mono hz2))
          have JB' := Lib.hid (JB.out.trans (hb3.mono JB.out.size))
          have hz3 : w1.heap.size ≤ w3.heap.size := Nat.le_trans hz2 hb3.size
          clear hb3 J0 J1 J2 JO JS JB cM HS2
          cases O with
          | none =>
            have hr := Lib.hid (HX.out (by rw [HST.out]; rfl))
            clear HX HN HST HQ HC
            have hbz := (Below.refl w3.heap.size w3).alloc (Nat.le_refl _) (.cells #[.string ⟨#[]⟩, .int .i64 0, .int .i64 0, .int .i64 0] 25)
            have A0 := J0'.out.keep hbz
            have A1 := J1'.out.keep hbz
            have y0 := A0.cell 0
            have y1 := A0.cell 1
            have y2 := A0.cell 2
            have y3 := A0.cell 3
            have y4 := A0.cell 4
            have f0 := A0.free 0
            have f1 := A0.free 1
            have f2 := A0.free 2
            have f3 := A0.free 3
            have f4 := A0.free 4
            have u0 := A1.cell 0
            have u1 := A1.cell 1
            have g0 := A1.free 0
            have g1 := A1.free 1
            simp [manB] at y0 y1 y2 y3 y4 u0 u1
            have JB2 := Lib.hid (JB'.out.alloc JB'.out.size (.cells #[.string ⟨#[]⟩, .int .i64 0, .int .i64 0, .int .i64 0] 25))
            clear A0 A1 hbz
            dsimp only [retM]
            go_wp2
            refine bodyPost_ret (v := .tuple #[.agg #[.string ⟨#[]⟩, .int .i64 0, .int .i64 0, .int .i64 0, .slice none 0 0], .agg #[.int .i64 8, .int .i64 ((k : Int) + 1)]]) (by simp [results, Tryz.results21, go_sem, y0, y1, y2, y3, y4, u0, u1]) rfl ?_
            rw [← hR]
            exact ret_flt hr.out (by omega) (below7 JB2.out _ _ _ _ _ _ _)
          | some mm =>
            obtain ⟨p, x, y, z⟩ := mm
            have hn := Lib.hid (show colL (some []) ((LS.take (k + 1)).map wordsL) = some [(p, x, y, z)] by rw [HN.out, HST.out]; rfl)
            clear HX HN HST HQ HC
            have hbz := (Below.refl w3.heap.size w3).alloc (Nat.le_refl _) (.cells #[.string ⟨p.toArray⟩, .int .i64 x, .int .i64 y, .int .i64 z] 25)
            have A0 := Lib.hid (J0'.out.keep hbz)
            have A1 := Lib.hid (J1'.out.keep hbz)
            have A2' := Lib.hid (J2'.out.keep hbz)
            have AO := Lib.hid (own_below2 JO'.out hbz)
            have AS := Lib.hid (JS'.out.below (hbz.mono hz3))
            have AB := Lib.hid (JB'.out.alloc JB'.out.size (.cells #[.string ⟨p.toArray⟩, .int .i64 x, .int .i64 y, .int .i64 z] 25))
            have y0 := A2'.out.cell 0
            have y1 := A2'.out.cell 1
            have y2 := A2'.out.cell 2
            have y3 := A2'.out.cell 3
            have f0 := A2'.out.free 0
            have f1 := A2'.out.free 1
            have f2 := A2'.out.free 2
            have f3 := A2'.out.free 3
            simp [manB] at y0 y1 y2 y3
            clear hbz J0' J1' J2' JO' JS' JB'
            dsimp only [retM]
            go_wp2
            have ne0 : w.heap.size ≠ w.heap.size + 2 := by omega
            have ne1 : w.heap.size + 1 ≠ w.heap.size + 2 := by omega
            have nl : ∀ i, LS = [] ∨ ∀ a, some (⟨b, off, none⟩ : Addr) = some a → a.block ≠ (⟨w.heap.size + 2, i, none⟩ : Addr).block := fun i => .inr fun a ha => by have := HNEW.out a ha; simp only; omega
            go_roundw
            case rel => exact ⟨k + 1, true, [(p, x, y, z)], (p, x, y, z), [], A4, c4, by omega, rfl, by go_num, hn, Lib.hid (.inr ⟨rfl, rfl⟩),
              Lib.hid ((((A0.out.far ne0 _).far ne0 _).far ne0 _).far ne0 _), Lib.hid ((((A1.out.far ne1 _).far ne1 _).far ne1 _).far ne1 _),
              Lib.hid ((((A2'.out.set_ 0 _).set_ 1 _).set_ 2 _).set_ 3 _), Lib.hid (own4 AO.out _ _ _ _ (by omega)),
              Lib.hid ((((AS.out.setCell _ _ (nl _)).setCell _ _ (nl _)).setCell _ _ (nl _)).setCell _ _ (nl _)), by simp; omega,
              Lib.hid ((((AB.out.setCell (p := ⟨w.heap.size + 2, 0, none⟩) (by simp only; omega) _).setCell (p := ⟨w.heap.size + 2, 1, none⟩) (by simp only; omega) _).setCell (p := ⟨w.heap.size + 2, 2, none⟩) (by simp only; omega) _).setCell (p := ⟨w.heap.size + 2, 3, none⟩) (by simp only; omega) _)⟩
            case measure => simp [intOf]; omega
        · have cM := Lib.hid (refmodule_any A2 c2 ws wReq w2 HS2.out (by omega) HWS.out)
          have hfw : firstW (m :: l) = wReq := rfl
          rw [hfw] at HST
          clear hfw
          generalize wordM wReq ws = O at cM HST
          go_wp2_with fail
          refine cM.out.mono ?_
          rintro e w3 ⟨rfl, hb3⟩
          have J0' := Lib.hid (J0.out.keep hb3)
          have J1' := Lib.hid (J1.out.keep hb3)
          have J2' := Lib.hid (J2.out.keep hb3)
          have JO' := Lib.hid (own_below2 JO.out hb3)
          have JS' := Lib.hid (JS.out.below (hb3.mono hz2))
          have JB' := Lib.hid (JB.out.trans (hb3.mono JB.out.size))
          have hz3 : w1.heap.size ≤ w3.heap.size := Nat.le_trans hz2 hb3.size
          clear hb3 J0 J1 J2 JO JS JB cM HS2
          cases O with
          | none =>
            have hr := Lib.hid (HX.out (by rw [HST.out]; rfl))
            clear HX HN HST HQ HC
            have hbz := (Below.refl w3.heap.size w3).alloc (Nat.le_refl _) (.cells #[.string ⟨#[]⟩, .int .i64 0, .int .i64 0, .int .i64 0] 25)
            have A0 := J0'.out.keep hbz
            have A1 := J1'.out.keep hbz
            have y0 := A0.cell 0
            have y1 := A0.cell 1
            have y2 := A0.cell 2
            have y3 := A0.cell 3
            have y4 := A0.cell 4
            have f0 := A0.free 0
            have f1 := A0.free 1
            have f2 := A0.free 2
            have f3 := A0.free 3
            have f4 := A0.free 4
            have u0 := A1.cell 0
            have u1 := A1.cell 1
            have g0 := A1.free 0
            have g1 := A1.free 1
            simp [manB] at y0 y1 y2 y3 y4 u0 u1
            have JB2 := Lib.hid (JB'.out.alloc JB'.out.size (.cells #[.string ⟨#[]⟩, .int .i64 0, .int .i64 0, .int .i64 0] 25))
            clear A0 A1 hbz
            dsimp only [retM]
            go_wp2
            refine bodyPost_ret (v := .tuple #[.agg #[.string ⟨#[]⟩, .int .i64 0, .int .i64 0, .int .i64 0, .slice none 0 0], .agg #[.int .i64 8, .int .i64 ((k : Int) + 1)]]) (by simp [results, Tryz.results21, go_sem, y0, y1, y2, y3, y4, u0, u1]) rfl ?_
            rw [← hR]
            exact ret_flt hr.out (by omega) (below7 JB2.out _ _ _ _ _ _ _)
          | some mm =>
            obtain ⟨p, x, y, z⟩ := mm
            have hn := Lib.hid (show colL (some []) ((LS.take (k + 1)).map wordsL) = some (m :: (l ++ [(p, x, y, z)])) by rw [HN.out, HST.out]; rfl)
            clear HX HN HST HQ HC
            have hbz := (Below.refl w3.heap.size w3).alloc (Nat.le_refl _) (.cells #[.string ⟨p.toArray⟩, .int .i64 x, .int .i64 y, .int .i64 z] 25)
            have A0 := Lib.hid (J0'.out.keep hbz)
            have A1 := Lib.hid (J1'.out.keep hbz)
            have A2' := Lib.hid (J2'.out.keep hbz)
            have AO := Lib.hid (own_below2 JO'.out hbz)
            have AS := Lib.hid (JS'.out.below (hbz.mono hz3))
            have AB := Lib.hid (JB'.out.alloc JB'.out.size (.cells #[.string ⟨p.toArray⟩, .int .i64 x, .int .i64 y, .int .i64 z] 25))
            have y4 := A2'.out.cell 4
            have f4 := A2'.out.free 4
            simp [manB] at y4
            have hsr := Src.lit (w3.alloc (.cells #[.string ⟨p.toArray⟩, .int .i64 x, .int .i64 y, .int .i64 z] 25)) 4 25 #[.string ⟨p.toArray⟩, .int .i64 x, .int .i64 y, .int .i64 z] 1 rfl
            rw [World.size_alloc] at hsr
            have HSR := Lib.hid hsr
            clear hsr
            have hll2 := HLL.out.1
            have hll3 : l.length + 1 ≤ 65536 := by simp at hll2; omega
            have b0 : l.length + 1 ≤ maxLen := by unfold maxLen; omega
            have b1 : (l.length + 1) * 40 ≤ 140737488355328 := by omega
            have hq2 : w.heap.size + 2 < w1.heap.size := by omega
            clear hbz J0' J1' J2' JO' JS' JB' hll2
            dsimp only [retM]
            go_wp2_with (at_builtin; refine wpList_own rfl (.tmp 48) (.tmp 50) rfl w1.heap.size elMod (.slice A4 l.length c4) l.length _ rfl (own_below2 AO.out ((Below.refl _ _).alloc (Nat.le_refl _) _)) _ 1 1 _ rfl HSR.out (by decide) (by simp [Value.oneCell']) b0 b1 (by simp; omega) ?_; intro v' w5 hown5 hgrow5 hb5; obtain ⟨g', cap', rfl⟩ := ownsP hown5 (by omega); have C2 := Lib.hid (show Blk w5 (w.heap.size + 2) 28 (manB m A4 l.length c4) from (hb5.block (w.heap.size + 2) (by omega)).trans (A2'.out.keep ((Below.refl _ _).alloc (Nat.le_refl _) (.cells #[.string ⟨p.toArray⟩, .int .i64 x, .int .i64 y, .int .i64 z] 25)))); have z4 : w5.cell? ⟨w.heap.size + 2, 4, none⟩ = some (.slice A4 l.length c4) := Blk.cell C2.out 4; have h4 : w5.frozen? ⟨w.heap.size + 2, 4, none⟩ = false := Blk.free C2.out 4)
            have ne0 : w.heap.size ≠ w.heap.size + 2 := by omega
            have ne1 : w.heap.size + 1 ≠ w.heap.size + 2 := by omega
            have nl : ∀ i, LS = [] ∨ ∀ a, some (⟨b, off, none⟩ : Addr) = some a → a.block ≠ (⟨w.heap.size + 2, i, none⟩ : Addr).block := fun i => .inr fun a ha => by have := HNEW.out a ha; simp only; omega
            have C0 := Lib.hid (show Blk w5 w.heap.size 28 (manB zeroM none 0 0) from (hb5.block w.heap.size (by omega)).trans (A0.out.keep ((Below.refl _ _).alloc (Nat.le_refl _) (.cells #[.string ⟨p.toArray⟩, .int .i64 x, .int .i64 y, .int .i64 z] 25))))
            have C1 := Lib.hid (show Blk w5 (w.heap.size + 1) 38 #[.int .i64 0, .int .i64 0] from (hb5.block (w.heap.size + 1) (by omega)).trans (A1.out.keep ((Below.refl _ _).alloc (Nat.le_refl _) (.cells #[.string ⟨p.toArray⟩, .int .i64 x, .int .i64 y, .int .i64 z] 25))))
            have CS := Lib.hid ((AS.out.below (((Below.refl _ _).alloc (Nat.le_refl _) (.cells #[.string ⟨p.toArray⟩, .int .i64 x, .int .i64 y, .int .i64 z] 25)).mono (by simp; omega))).below hb5)
            have CB := Lib.hid ((AB.out.alloc AB.out.size (.cells #[.string ⟨p.toArray⟩, .int .i64 x, .int .i64 y, .int .i64 z] 25)).trans (hb5.mono (by omega)))
            have e5 : l.flatMap encM ++ [.string ⟨p.toArray⟩, .int .i64 x, .int .i64 y, .int .i64 z] = (l ++ [(p, x, y, z)]).flatMap encM := by simp [encM]
            have CO := Lib.hid (show w5.ownsRow w1.heap.size 25 4 _ (l.length + 1) ((l ++ [(p, x, y, z)]).flatMap encM) from e5 ▸ hown5)
            have hz5 := hgrow5.size
            simp at hz5
            clear A0 A1 A2' AO AS AB hown5 hb5 hgrow5 e5
            go_wp2
            go_roundw
            case rel =>
              have hla : (l ++ [(p, x, y, z)]).length = l.length + 1 := by simp
              refine ⟨k + 1, true, m :: (l ++ [(p, x, y, z)]), m, l ++ [(p, x, y, z)], some ⟨g', 0, none⟩, cap', by omega, rfl, by go_num, hn, Lib.hid (.inr ⟨rfl, rfl⟩), ?_⟩
              rw [hla]
              exact ⟨Lib.hid (C0.out.far ne0 _), Lib.hid (C1.out.far ne1 _), Lib.hid (C2.out.set_ 4 _), Lib.hid (CO.out.kept (grownS w5 _ _) (.inr (fun e => by have := (CO.out.lt _ e).1; simp only at this; omega))), Lib.hid (CS.out.setCell _ _ (nl _)), by simp; omega, Lib.hid (CB.out.setCell (p := ⟨w.heap.size + 2, 4, none⟩) (by simp only; omega) _)⟩
            case measure => simp [intOf]; omega
    · obtain rfl : k = LS.length := by omega
      have hC := HC.out
      rw [List.take_of_length_le (Nat.le_refl _)] at hC
      have hl := HLEN.out LS.length L HC.out
      rcases HQ.out with ⟨rfl, rfl, rfl, rfl⟩ | ⟨rfl, rfl⟩
      · have hr := Lib.hid (HNONE.out hC)
        have T0 := K0
        have T1 := K1
        have y0 := T0.out.cell 0
        have y1 := T0.out.cell 1
        have y2 := T0.out.cell 2
        have y3 := T0.out.cell 3
        have y4 := T0.out.cell 4
        have f0 := T0.out.free 0
        have f1 := T0.out.free 1
        have f2 := T0.out.free 2
        have f3 := T0.out.free 3
        have f4 := T0.out.free 4
        have u0 := T1.out.cell 0
        have u1 := T1.out.cell 1
        have g0 := T1.out.free 0
        have g1 := T1.out.free 1
        simp [manB] at y0 y1 y2 y3 y4 u0 u1
        clear HQ HC hC hl K2 HO HS
        go_wp2
        refine bodyPost_ret (v := .tuple #[.agg #[.string ⟨#[]⟩, .int .i64 0, .int .i64 0, .int .i64 0, .slice none 0 0], .agg #[.int .i64 8, .int .i64 ((LS.length : Int) + 1)]]) (by simp [results, Tryz.results21, go_sem, y0, y1, y2, y3, y4, u0, u1]) rfl ?_
        rw [← hR]
        exact ret_flt hr.out (by omega) (below7 HB.out _ _ _ _ _ _ _)
      · have hr := HOK.out m l hC
        have hS4 : Sl wr wr.heap.size 4 encM A4 l := Acc.slAny (.inl HO.out) encM_len (by decide)
        obtain ⟨hl1, hl2⟩ := hl
        have hl3 : l.length ≤ 65536 := by simp at hl1; omega
        have cC0 := refCheck_any m A4 c4 l wr hS4 (by omega) (fun x hx => by have := hl2 x hx; omega)
        have cS := Lib.hid (fun W (hW : Below wr.heap.size wr W) => refSorted_far A4 c4 l W ((hS4.below hW).more hW.size) (by omega))
        have k0 := K2.out.cell 0
        have k1 := K2.out.cell 1
        have k2 := K2.out.cell 2
        have k3 := K2.out.cell 3
        have k4 := K2.out.cell 4
        simp [manB] at k0 k1 k2 k3 k4
        have HML := Lib.hid (msort_len l)
        generalize mcheck m l = E at cC0 hr
        have cC := Lib.hid cC0
        have HRR := Lib.hid hr
        clear hr cC0 hl1 hl2 hS4 HQ HC hC HO HS
        by_cases hE : E = 0
        · have hr := Lib.hid (show R = ((m, msort l), 0, 0) by rw [HRR.out, if_pos hE])
          subst hE
          clear HRR
          generalize msort l = L' at hr cS HML
          go_wp2_with fail
          refine cC.out.mono ?_
          rintro e w3 ⟨rfl, hb3⟩
          have q4 := (K2.out.keep hb3).cell 4
          simp [manB] at q4
          have HB3 := Lib.hid hb3
          clear k0 k1 k2 k3 k4 hb3 cC
          go_wp2_with fail
          refine (cS.out _ HB3.out).mono ?_
          rintro e w4 ⟨A6, c6, rfl, hfar, hS6, hb4⟩
          have T0 := Lib.hid ((K0.out.keep HB3.out).keep hb4)
          have T1 := Lib.hid ((K1.out.keep HB3.out).keep hb4)
          have T2 := Lib.hid ((K2.out.keep HB3.out).keep hb4)
          have TB := Lib.hid ((HB.out.trans (HB3.out.mono HB.out.size)).trans (hb4.mono (Nat.le_trans HB.out.size HB3.out.size)))
          have T6 := Lib.hid hS6
          have h36 := HB3.out.size
          have TF := Lib.hid (fun a (ha : A6 = some a) => show w.heap.size + 3 ≤ a.block by have := hfar a ha; omega)
          have t0 := T2.out.cell 0
          have t1 := T2.out.cell 1
          have t2 := T2.out.cell 2
          have t3 := T2.out.cell 3
          have t4 := T2.out.cell 4
          have p4 := T2.out.free 4
          simp [manB] at t0 t1 t2 t3 t4
          have y0 := T0.out.cell 0
          have y1 := T0.out.cell 1
          have y2 := T0.out.cell 2
          have y3 := T0.out.cell 3
          have y4 := T0.out.cell 4
          have f0 := T0.out.free 0
          have f1 := T0.out.free 1
          have f2 := T0.out.free 2
          have f3 := T0.out.free 3
          have f4 := T0.out.free 4
          have u0 := T1.out.cell 0
          have u1 := T1.out.cell 1
          have g0 := T1.out.free 0
          have g1 := T1.out.free 1
          simp [manB] at y0 y1 y2 y3 y4 u0 u1
          have ne2 : L' = [] ∨ ∀ a, A6 = some a → a.block ≠ (⟨w.heap.size + 2, 4, none⟩ : Addr).block := .inr fun a ha => by have := TF.out a ha; simp only; omega
          have NE := Lib.hid ne2
          clear q4 hfar hS6 hb4 HB3 cS ne2 K0 K1 K2
          go_wp2
          refine bodyPost_ret (v := .tuple #[.agg #[.string ⟨m.1.toArray⟩, .int .i64 m.2.1, .int .i64 m.2.2.1, .int .i64 m.2.2.2, .slice A6 l.length c6], .agg #[.int .i64 0, .int .i64 0]]) (by simp [results, Tryz.results21, go_sem, y0, y1, y2, y3, y4, u0, u1]) rfl ?_
          rw [← hR]
          have hX := Lib.hid (T6.out.setCell ⟨w.heap.size + 2, 4, none⟩ (.slice A6 l.length c6) NE.out)
          exact ret_man (n := 0) hr.out HML.out.symm rfl (sl7 (by simpa [World.setCell] using hX.out) (fun a ha => by have := TF.out a ha; omega) _ _ _ _ _ _ _ _ rfl) (below7 (TB.out.setCell (p := ⟨w.heap.size + 2, 4, none⟩) (by simp only; omega) _) _ _ _ _ _ _ _)
        · have hr := Lib.hid (show R = ((zeroM, []), E, 0) by rw [HRR.out, if_neg hE])
          have hE' : (E != 0) = true := by simpa using hE
          clear HRR hE
          go_wp2_with fail
          refine cC.out.mono ?_
          rintro e w3 ⟨rfl, hb3⟩
          have T0 := Lib.hid (K0.out.keep hb3)
          have T1 := Lib.hid (K1.out.keep hb3)
          have TB := Lib.hid (HB.out.trans (hb3.mono HB.out.size))
          have y0 := T0.out.cell 0
          have y1 := T0.out.cell 1
          have y2 := T0.out.cell 2
          have y3 := T0.out.cell 3
          have y4 := T0.out.cell 4
          have f0 := T0.out.free 0
          have f1 := T0.out.free 1
          have f2 := T0.out.free 2
          have f3 := T0.out.free 3
          have f4 := T0.out.free 4
          have u0 := T1.out.cell 0
          have u1 := T1.out.cell 1
          have g0 := T1.out.free 0
          have g1 := T1.out.free 1
          simp [manB] at y0 y1 y2 y3 y4 u0 u1
          clear k0 k1 k2 k3 k4 hb3 cC cS K0 K1 K2
          go_wp2
          refine bodyPost_ret (v := .tuple #[.agg #[.string ⟨#[]⟩, .int .i64 0, .int .i64 0, .int .i64 0, .slice none 0 0], .agg #[.int .i64 E, .int .i64 0]]) (by simp [results, Tryz.results21, go_sem, y0, y1, y2, y3, y4, u0, u1]) rfl ?_
          rw [← hR]
          exact ret_flt (n := 0) hr.out rfl (below7 TB.out _ _ _ _ _ _ _)
end Go.Proofs.YtbbdoibmcmkmnaaGreatDoor
