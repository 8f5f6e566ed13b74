/- Walk: a chain of requirements (selection.Reason). -/
import Derived.Test.YtfiilbdkhelhgaaDoorWI4
import Derived.Test.YtfiilbdkhelhgaaDoorG3
namespace Go.Proofs.YtfiilbdkhelhgaaDoor
open Go.RowKit Go.Sort

theorem idxP_find (l : List Mod) (path : List UInt8) : (idxP l path = -1 ∧ l.find? (fun m => decide (m.1 = path)) = none) ∨ ∃ (k : Nat) (hk : k < l.length), idxP l path = k ∧ l.find? (fun m => decide (m.1 = path)) = some l[k] := by
  unfold idxP
  by_cases h : l.findIdx (fun m => decide (m.1 = path)) < l.length
  · rw [if_pos h]
    refine .inr ⟨_, h, rfl, ?_⟩
    rw [List.find?_eq_some_iff_getElem]
    exact ⟨List.findIdx_getElem (w := h), _, h, rfl, fun j hj => by simpa using List.not_of_lt_findIdx hj⟩
  · rw [if_neg h]
    refine .inl ⟨rfl, List.find?_eq_none.2 fun x hx hd => h ?_⟩
    exact List.findIdx_lt_length_of_exists ⟨x, hx, hd⟩
/-- the map of ways -/
def fromF (F : List (Mod × Mod)) (m : Mod) : Option Value := (lookF F m).map modV
theorem fromF_put {F : List (Mod × Mod)} {m p : Mod} (h : lookF F m = none) : (fun x => if x = m then some (modV p) else fromF F x) = fromF (F ++ [(m, p)]) := by
  funext x
  unfold fromF
  rw [lookF_put h]
  by_cases hx : x = m
  · rw [if_pos hx, if_pos hx]; rfl
  · rw [if_neg hx, if_neg hx]
theorem field_man (m : Mod) (A : Option Addr) (n c : Nat) : ∀ w, (Instr.field 29 (.agg #[.string ⟨m.1.toArray⟩, .int .i64 m.2.1, .int .i64 m.2.2.1, .int .i64 m.2.2.2, .slice A n c]) 1).run Tryd.prog w = .ok (.slice A n c) w := fun _ => by kernel_rfl
theorem modZero (w : World) : (zeroValue 26).run Tryd.prog w = .ok (.agg #[.string ⟨#[]⟩, .int .i64 0, .int .i64 0, .int .i64 0]) w := Tryd.zeroValue26 w
theorem own_ne_map {α : Type} {P : Program} {k : TypeId} {T : KeyT P k α} {w : World} {base e size n b q : Nat} {v : Value} {xs : List Value} {f : α → Option Value} (h : w.ownsRow base e size v n xs) (hm : OMap T w b q f) : v.ownBlock ≠ some b := by
  obtain ⟨D, ⟨es, clock, hb, _⟩, _⟩ := hm
  rcases h.2 with ⟨rfl, _⟩ | ⟨g, cap, cur, rfl, _, hh, _⟩
  · simp [Value.ownBlock]
  · intro e1
    obtain rfl : g = b := by simpa [Value.ownBlock] using e1
    rw [hb] at hh; cases hh
theorem blk_ne_map {α : Type} {P : Program} {k : TypeId} {T : KeyT P k α} {w : World} {b g q : Nat} {t : TypeId} {cs : Array Value} {f : α → Option Value} (h : Blk w g t cs) (hm : OMap T w b q f) : g ≠ b := by
  obtain ⟨D, ⟨es, clock, hb, _⟩, _⟩ := hm
  intro e1
  subst e1
  unfold Blk at h
  rw [hb] at h; cases h
theorem Blk.grown {w w' : World} {g : Nat} {t : TypeId} {cs : Array Value} {row : Option Nat} (h : Blk w g t cs) (hg : w.grownBy w' row) (hne : some g ≠ row) : Blk w' g t cs := (hg.block g h.lt hne).trans h
theorem Acc.own_lt {w : World} {base e size n : Nat} {v : Value} {xs : List Value} (h : Acc w base e size v n xs) {b : Nat} (hb : v.ownBlock = some b) : b < w.heap.size := by
  rcases h with h | ⟨_, g, off, rfl, hlt, _⟩
  · exact (h.lt b hb).2
  · have : g = b := by simpa [Value.ownBlock] using hb
    omega

/-- what the search keeps -/
structure RInv (w wr : World) (g : Mod) (Ng gI gF gS nS base : Nat) (Y : List ManW) (l : List Mod) (F : List (Mod × Mod)) (v : Value) : Prop where
  goal : Blk wr Ng 26 (modA g)
  idx : OMap KM wr gI Y.length (findF Y)
  frm : OMap KM wr gF F.length (fromF F)
  fst : OMap KM wr gS nS (seenM (msort l))
  row : wr.ownsRow base 26 4 v (todoF (msort l) F).length ((todoF (msort l) F).flatMap encM)
  bel : Below w.heap.size w wr
theorem RInv.below {w wr w' : World} {g : Mod} {Ng gI gF gS nS base : Nat} {Y : List ManW} {l : List Mod} {F : List (Mod × Mod)} {v : Value} (h : RInv w wr g Ng gI gF gS nS base Y l F v) (hb : Below wr.heap.size wr w') : RInv w w' g Ng gI gF gS nS base Y l F v :=
  ⟨h.goal.keep hb, h.idx.below hb, h.frm.below hb, h.fst.below hb, own_below2 h.row hb, h.bel.trans (hb.mono h.bel.size)⟩

theorem mod_eta' (m : Mod) : (m.1, m.2.1, m.2.2.1, m.2.2.2) = m := rfl
theorem run_own2 {P : Program} {t e size bytes : Nat} (w : World) (hT : ElT P t e size bytes) (base ty : Nat) (v : Value) (n : Nat) (xs : List Value) (hown : w.ownsRow base e size v n xs)
    (A : Option Addr) (m c : Nat) (news : List Value) (hsrc : Src w size A m news) (hm : 0 < m) (h1 : ∀ u ∈ news, u.oneCell' = true)
    (h63 : n + m ≤ maxLen) (hbytes : (n + m) * bytes ≤ 140737488355328) (hbase : base ≤ w.heap.size) :
    ∃ A' c' w', (Builtin.append_ #[t, t] ty #[v, .slice A m c]).run P w = .ok (.slice A' (n + m) c') w' ∧ w'.ownsRow base e size (.slice A' (n + m) c') (n + m) (xs ++ news) ∧ w.grownBy w' v.ownBlock ∧ Below base w w' ∧
      ((Value.slice A' (n + m) c').ownBlock = v.ownBlock ∨ ∃ g, (Value.slice A' (n + m) c').ownBlock = some g ∧ w.heap.size ≤ g) := by
  obtain ⟨ht, hsz, i, z, hi, hz, hs, hby, hzs⟩ := hT
  obtain ⟨ad, rfl, hc⟩ := hsrc.2 hm
  obtain ⟨v', w', hr, h2, h3, h4, h5⟩ := run_append_own_at (P := P) w base t ty e i z size bytes ht hi hz hs hby hzs hsz v n xs hown ad m c news hsrc.1 hc h1 h63 hbytes hbase
  obtain ⟨A', c', rfl⟩ := Acc.shape (.inl h2)
  refine ⟨A', c', w', hr, h2, h3, (Below.refl _ _).grown h3 hbase (fun k hk => (hown.lt k hk).1), ?_⟩
  rcases h5 with h5 | h5
  · exact .inl h5
  · exact .inr ⟨_, h5, Nat.le_refl _⟩
/-- a manifest looked up: its requirements -/
theorem reg_look {W : World} {b n : Nat} {Y : List ManW} (p : Mod) (hm : OMap KM W b n (findF Y)) (hp : okMod p) (hY : ∀ y ∈ Y, ManOk W W.heap.size y) :
    ∃ (mm : Mod) (Am : Option Addr) (cm rl : Nat), rl = (reqOf (regW Y) p).length ∧ (Instr.lookup 55 (.map (some b)) (.agg #[.string ⟨p.1.toArray⟩, .int .i64 p.2.1, .int .i64 p.2.2.1, .int .i64 p.2.2.2]) false).run Tryd.prog W =
      .ok (.agg #[.string ⟨mm.1.toArray⟩, .int .i64 mm.2.1, .int .i64 mm.2.2.1, .int .i64 mm.2.2.2, .slice Am rl cm]) W ∧ Sl W W.heap.size 4 encM Am (reqOf (regW Y) p) ∧ (reqOf (regW Y) p).length ≤ 100 ∧ ∀ x ∈ reqOf (regW Y) p, okB x := by
  have h := hm.look Tryd.underlying55 (manZero W) p hp
  have hrq := reqOf_find Y p
  unfold findF at h
  cases hf : Y.find? fun y => decide (y.1 = p) with
  | none =>
    rw [hf] at h hrq
    have hrq' : reqOf (regW Y) p = [] := hrq
    rw [hrq']
    exact ⟨zmod, none, 0, 0, rfl, h, Sl.nil_, by simp, by simp⟩
  | some y =>
    rw [hf] at h hrq
    obtain ⟨m1, A1, c1, l1⟩ := y
    have hrq' : reqOf (regW Y) p = l1 := hrq
    obtain ⟨h1, h2, h3⟩ := hY _ (List.mem_of_find?_eq_some hf)
    rw [hrq']
    exact ⟨m1, A1, c1, _, rfl, h, h1, h2, fun x hx => h3 x (List.mem_cons_of_mem _ hx)⟩

theorem Sl.grown {α : Type} {w w' : World} {B k : Nat} {enc : α → List Value} {A : Option Addr} {l : List α} {row : Option Nat} (h : Sl w B k enc A l) (_ : B ≤ w.heap.size) (hg : w.grownBy w' row) (hne : l = [] ∨ ∀ a, A = some a → some a.block ≠ row) : Sl w' B k enc A l := by
  rcases h with h | ⟨b, off, rfl, hb, hc⟩
  · exact .inl h
  · rcases hne with hne | hne
    · exact .inl hne
    · exact .inr ⟨b, off, rfl, hb, fun i hi j v hv => hg.cell (hc i hi j v hv) (hne ⟨b, off, none⟩ rfl)⟩
theorem RInv.put {w wr : World} {g m p : Mod} {Ng gI gF gS nS base : Nat} {Y : List ManW} {l : List Mod} {F : List (Mod × Mod)} {v : Value} (h : RInv w wr g Ng gI gF gS nS base Y l F v) (hm : okMod m) (hn : lookF F m = none) (hF : F.length < maxLen) (h1 : gI ≠ gF) (h2 : gS ≠ gF) (hw : w.heap.size ≤ gF) :
    ∃ w6, (Instr.mapUpdate 66 (.map (some gF)) (.agg #[.string ⟨m.1.toArray⟩, .int .i64 m.2.1, .int .i64 m.2.2.1, .int .i64 m.2.2.2]) (.agg #[.string ⟨p.1.toArray⟩, .int .i64 p.2.1, .int .i64 p.2.2.1, .int .i64 p.2.2.2])).run Tryd.prog wr = .ok () w6 ∧
      Blk w6 Ng 26 (modA g) ∧ OMap KM w6 gI Y.length (findF Y) ∧ OMap KM w6 gF (F ++ [(m, p)]).length (fromF (F ++ [(m, p)])) ∧ OMap KM w6 gS nS (seenM (msort l)) ∧
      w6.ownsRow base 26 4 v (todoF (msort l) F).length ((todoF (msort l) F).flatMap encM) ∧ Below w.heap.size w w6 ∧ wr.grownBy w6 (some gF) := by
  obtain ⟨w6, hput, hm6, hg6⟩ := h.frm.put Tryd.underlying66 hF m hm (modV p)
  rw [fromF_put hn] at hm6
  refine ⟨w6, hput, h.goal.grown hg6 (by intro e; injection e with e; exact blk_ne_map h.goal h.frm e), h.idx.kept hg6 (by intro e; injection e with e; exact h1 e), by rw [List.length_append]; exact hm6, h.fst.kept hg6 (by intro e; injection e with e; exact h2 e),
    h.row.kept hg6 (.inr (own_ne_map h.row h.frm)), h.bel.grown hg6 h.bel.size (by intro k hk; injection hk with hk; omega), hg6⟩
theorem todoF_snoc (first : List Mod) (F : List (Mod × Mod)) (m p : Mod) : todoF first (F ++ [(m, p)]) = todoF first F ++ [m] := by simp [todoF]
theorem rinv_app {w w6 : World} {g m p : Mod} {Ng gI gF gS nS base n : Nat} {Y : List ManW} {l : List Mod} {F : List (Mod × Mod)} {v : Value} (hN : n = (todoF (msort l) F).length) (hb : base ≤ w6.heap.size) (hn : n ≤ 1000000) (hNg : Ng < base) (hw : w.heap.size ≤ base)
    (a1 : Blk w6 Ng 26 (modA g)) (a2 : OMap KM w6 gI Y.length (findF Y)) (a3 : OMap KM w6 gF (F ++ [(m, p)]).length (fromF (F ++ [(m, p)]))) (a4 : OMap KM w6 gS nS (seenM (msort l)))
    (a5 : w6.ownsRow base 26 4 v (todoF (msort l) F).length ((todoF (msort l) F).flatMap encM)) (a6 : Below w.heap.size w w6) :
    ∃ A7 c7 w7, (Builtin.append_ #[27, 27] 27 #[v, .slice (some ⟨w6.heap.size, 0, none⟩) 1 1]).run Tryd.prog (w6.alloc (.cells #[.string ⟨m.1.toArray⟩, .int .i64 m.2.1, .int .i64 m.2.2.1, .int .i64 m.2.2.2] 26)) = .ok (.slice A7 (n + 1) c7) w7 ∧
      RInv w w7 g Ng gI gF gS nS base Y l (F ++ [(m, p)]) (.slice A7 (n + 1) c7) ∧ (w6.alloc (.cells #[.string ⟨m.1.toArray⟩, .int .i64 m.2.1, .int .i64 m.2.2.1, .int .i64 m.2.2.2] 26)).grownBy w7 v.ownBlock ∧
      ((Value.slice A7 (n + 1) c7).ownBlock = v.ownBlock ∨ ∃ g, (Value.slice A7 (n + 1) c7).ownBlock = some g ∧ w6.heap.size ≤ g) := by
  subst hN
  have hA : Below w6.heap.size w6 (w6.alloc (.cells #[.string ⟨m.1.toArray⟩, .int .i64 m.2.1, .int .i64 m.2.2.1, .int .i64 m.2.2.2] 26)) := (Below.refl _ _).alloc (Nat.le_refl _) _
  have hrow := own_below2 a5 hA
  obtain ⟨A7, c7, w7, hr, h2, h3, h4, h5⟩ := run_own2 _ elMod base 27 v _ _ hrow (some ⟨w6.heap.size, 0, none⟩) 1 1 [.string ⟨m.1.toArray⟩, .int .i64 m.2.1, .int .i64 m.2.2.1, .int .i64 m.2.2.2] (Src.lit w6 4 _ _ 1 rfl) (by decide) (by simp [Value.oneCell']) (by unfold maxLen; omega) (by omega) (by simp; omega)
  refine ⟨A7, c7, w7, hr, ⟨(a1.keep hA).grown h3 (fun e => own_apart hrow hNg e.symm), (a2.below hA).kept h3 (fun e => own_ne_map hrow (a2.below hA) e.symm), (a3.below hA).kept h3 (fun e => own_ne_map hrow (a3.below hA) e.symm), (a4.below hA).kept h3 (fun e => own_ne_map hrow (a4.below hA) e.symm), ?_,
    (a6.trans (hA.mono a6.size)).trans (h4.mono hw)⟩, h3, ?_⟩
  · rw [todoF_snoc, List.length_append, List.flatMap_append]
    exact h2
  · rcases h5 with h5 | ⟨q, h5, h6⟩
    · exact .inl h5
    · exact .inr ⟨q, h5, by simp at h6; omega⟩

theorem rinv_new {w wr W0 : World} {g m p : Mod} {Ng gI gF gS nS base n mb : Nat} {Y : List ManW} {l : List Mod} {F : List (Mod × Mod)} {v : Value} {A5 : Option Addr} {ls : List Mod}
    (h : RInv w wr g Ng gI gF gS nS base Y l F v) (hX : Below wr.heap.size wr W0) (hmb : Blk W0 mb 26 (modA m)) (hmF : mb ≠ gF) (hm : okMod m) (hn : lookF F m = none) (hF : F.length < maxLen) (h1 : gI ≠ gF) (h2 : gS ≠ gF) (hw : w.heap.size ≤ gF)
    (hN : n = (todoF (msort l) F).length) (hn6 : n ≤ 1000000) (hb : base ≤ wr.heap.size) (hNg : Ng < base) (hwb : w.heap.size ≤ base)
    (hS : Sl wr wr.heap.size 4 encM A5 ls) (hD : ls = [] ∨ ∀ a, A5 = some a → v.ownBlock ≠ some a.block ∧ a.block ≠ gF) :
    ∃ w6, (Instr.mapUpdate 66 (.map (some gF)) (.agg #[.string ⟨m.1.toArray⟩, .int .i64 m.2.1, .int .i64 m.2.2.1, .int .i64 m.2.2.2]) (.agg #[.string ⟨p.1.toArray⟩, .int .i64 p.2.1, .int .i64 p.2.2.1, .int .i64 p.2.2.2])).run Tryd.prog W0 = .ok () w6 ∧ Blk w6 mb 26 (modA m) ∧
      ∃ A7 c7 w7, (Builtin.append_ #[27, 27] 27 #[v, .slice (some ⟨w6.heap.size, 0, none⟩) 1 1]).run Tryd.prog (w6.alloc (.cells #[.string ⟨m.1.toArray⟩, .int .i64 m.2.1, .int .i64 m.2.2.1, .int .i64 m.2.2.2] 26)) = .ok (.slice A7 (n + 1) c7) w7 ∧
        RInv w w7 g Ng gI gF gS nS base Y l (F ++ [(m, p)]) (.slice A7 (n + 1) c7) ∧ Sl w7 w7.heap.size 4 encM A5 ls ∧ (ls = [] ∨ ∀ a, A5 = some a → (Value.slice A7 (n + 1) c7).ownBlock ≠ some a.block ∧ a.block ≠ gF) ∧ W0.heap.size ≤ w7.heap.size := by
  obtain ⟨w6, hput, b1, b2, b3, b4, b5, b6, b7⟩ := (h.below hX).put (p := p) hm hn hF h1 h2 hw
  have hz6 := b7.size
  obtain ⟨A7, c7, w7, hap, hR7, hg7, ho7⟩ := rinv_app (m := m) (p := p) hN (Nat.le_trans hb (Nat.le_trans hX.size hz6)) hn6 hNg hwb b1 b2 b3 b4 b5 b6
  have hA : Below w6.heap.size w6 (w6.alloc (.cells #[.string ⟨m.1.toArray⟩, .int .i64 m.2.1, .int .i64 m.2.2.1, .int .i64 m.2.2.2] 26)) := (Below.refl _ _).alloc (Nat.le_refl _) _
  have hz7 := hg7.size
  have hzA := hA.size
  have hD1 : ls = [] ∨ ∀ a, A5 = some a → some a.block ≠ some gF := hD.imp_right fun h a ha e => (h a ha).2 (Option.some.inj e)
  have hD2 : ls = [] ∨ ∀ a, A5 = some a → some a.block ≠ v.ownBlock := hD.imp_right fun h a ha e => (h a ha).1 e.symm
  have hS6 := (hS.below hX).grown hX.size b7 hD1
  have hS7 := ((hS6.more (Nat.le_trans hX.size hz6)).below hA).grown hzA hg7 hD2
  refine ⟨w6, hput, hmb.grown b7 (fun e => hmF (Option.some.inj e)), A7, c7, w7, hap, hR7, hS7.more (Nat.le_trans hzA hz7), ?_, by omega⟩
  rcases hS with hS | ⟨b, off, hAb, hlt, _⟩
  · exact .inl hS
  · rcases hD with hD | hD
    · exact .inl hD
    · refine .inr fun a ha => ⟨?_, (hD a ha).2⟩
      rcases ho7 with e | ⟨q, e, hq⟩
      · rw [e]; exact (hD a ha).1
      · rw [e]
        have hab : a.block = b := by
          have e3 := Option.some.inj (hAb.symm.trans ha)
          rw [← e3]
        intro e2
        have : q = a.block := Option.some.inj e2
        have := hX.size
        omega

set_option maxRecDepth 100000 in
set_option maxHeartbeats 4000000 in
theorem Reason_any (A : Option Addr) (c : Nat) (Y : List ManW) (y0 : ManW) (path : List UInt8) (w : World) (hY : RegOk w w.heap.size A Y) (h0 : ManOk w w.heap.size y0) (hG : Glob w) :
    Calls Tryd.prog 16 #[.slice A Y.length c, .agg #[.string ⟨y0.1.1.toArray⟩, .int .i64 y0.1.2.1, .int .i64 y0.1.2.2.1, .int .i64 y0.1.2.2.2, .slice y0.2.1 y0.2.2.2.length y0.2.2.1], .string ⟨path.toArray⟩] w
      (RetB w (reasonP (regW Y) y0.1 y0.2.2.2 path)) := by
  obtain ⟨rm, A0, c0, l0⟩ := y0
  simp only
  have HY := Lib.hid hY
  have H0 := Lib.hid h0
  have HG := Lib.hid hG
  have hYl := hY.2.2
  have hl0 : l0.length ≤ 100 := h0.2.1
  have hb0 : Below w.heap.size w ((w.alloc (.cells #[.string ⟨rm.1.toArray⟩, .int .i64 rm.2.1, .int .i64 rm.2.2.1, .int .i64 rm.2.2.2, .slice A0 l0.length c0] 29)).alloc (.cells #[.string ⟨path.toArray⟩] 9)) := ((Below.refl _ _).alloc (Nat.le_refl _) _).alloc (by simp) _
  have q0 : Blk ((w.alloc (.cells #[.string ⟨rm.1.toArray⟩, .int .i64 rm.2.1, .int .i64 rm.2.2.1, .int .i64 rm.2.2.2, .slice A0 l0.length c0] 29)).alloc (.cells #[.string ⟨path.toArray⟩] 9)) w.heap.size 29 (manA rm A0 l0.length c0) := (Blk.new w 29 (manA rm A0 l0.length c0)).keep ((Below.refl _ _).alloc (Nat.le_refl _) _)
  have q1 := Blk.new (w.alloc (.cells #[.string ⟨rm.1.toArray⟩, .int .i64 rm.2.1, .int .i64 rm.2.2.1, .int .i64 rm.2.2.2, .slice A0 l0.length c0] 29)) 9 #[.string ⟨path.toArray⟩]
  simp only [World.size_alloc] at q1
  have cB0 := fun W (hW : Below w.heap.size w W) => BuildList_any A c Y (rm, A0, c0, l0) W (HY.out.step hW) ((H0.out.keep hW).more hW.size) (HG.out.keep hW)
  obtain ⟨r, hr⟩ : ∃ r, r = reasonP (regW Y) rm l0 path := ⟨_, rfl⟩
  rw [← hr]
  unfold reasonP at hr
  simp only at cB0
  have hnd : (buildP (regW Y) rm l0).2 = 0 → (Y.map (·.1)).Nodup := fun h => reg_nodup (buildP_check (R := regW Y) (root := rm) (l := l0) h)
  have hlist : (buildP (regW Y) rm l0).2 = 0 → (buildP (regW Y) rm l0).1 = listP (regW Y) rm l0 := fun h => by
    unfold buildP at h ⊢
    split at h
    · split at h
      · split at h
        · rename_i h1 h2 h3
          rw [if_pos h1, if_pos h2, if_pos h3]
        · exact absurd h (by simp)
      · rename_i h1 h2
        exact absurd h h2
    · rename_i h1
      exact absurd h h1
  obtain ⟨B, hB⟩ : ∃ B, B = buildP (regW Y) rm l0 := ⟨_, rfl⟩
  rw [← hB] at cB0 hr hnd hlist
  obtain ⟨L, e1⟩ := B
  unfold RetB at cB0
  simp only at cB0 hr hnd hlist
  have HR := Lib.hid hr
  have cB := Lib.hid cB0
  have Q0 := Lib.hid q0
  have Q1 := Lib.hid q1
  have HB0 := Lib.hid hb0
  clear hY h0 hG hb0 q0 q1 cB0 hr hB
  have hmf : ∀ (fn : Fn) (first cap : Array Value) (w : World), (Instr.makeFunc fn first cap).run Tryd.prog w = .ok (.func fn first cap) w := fun _ _ _ _ => rfl
  have hmm := @run_makeMap Tryd.prog
  generalize hQ : RetB w r = Q
  by_cases he1 : e1 = 0
  · subst he1
    have HND := Lib.hid (hnd rfl)
    have HL := Lib.hid (hlist rfl)
    have HR1 := Lib.hid (HR.out.trans (if_pos rfl))
    have hL1 : 1 ≤ L.length := by rw [HL.out]; unfold listP; simp
    have hLmem : ∀ x ∈ L.drop 1, Reach (regW Y) l0 x := fun x hx => by
      rw [HL.out] at hx
      have h1 : x ∈ topL rm.1 (needL (regW Y) l0) := msort_mem.1 hx
      exact (needL_mem _ _ _).1 ((topL_mem _ _ _).1 h1).1
    have hLlen : L.length ≤ 10200 := by
      rw [HL.out]
      unfold listP
      rw [List.length_cons, msort_len]
      have h1 : (topL rm.1 (needL (regW Y) l0)).length ≤ (needL (regW Y) l0).length := List.length_filter_le _ _
      have h2 := nodup_len (needL (regW Y) l0) (univ (regW Y) l0) (needL_nodup _ _) fun x hx => ((needL_mem _ _ _).1 hx).univ
      have h3 := univ_len (regW Y) l0 (by simpa [regW] using hYl) (fun x hx => by
        obtain ⟨y, hy, rfl⟩ := List.mem_map.1 hx
        exact (HY.out.2.1 y hy).2.1)
      omega
    have HLM := Lib.hid hLmem
    have HLL := Lib.hid hLlen
    clear hnd HR hlist hLmem
    go_enter Tryd.func16, Tryd.ntmps16
    go_wp2_with fail
    refine (cB.out _ HB0.out).mono ?_
    rintro e w1 ⟨A1, c1, rfl, hc1, hS1, hb1⟩
    have HB1 := Lib.hid (HB0.out.trans (hb1.mono HB0.out.size))
    have R0 := Lib.hid (Q0.out.keep hb1)
    have R1 := Lib.hid (Q1.out.keep hb1)
    have rc : ∀ X, (Instr.slice 27 (.slice A1 L.length c1) (some (.int .i64 1)) none none).run Tryd.prog X = .ok (.slice (cutA A1 c1 1 4) (L.length - 1) (c1 - 1)) X := fun X => run_cut_lo elMod A1 L.length c1 1 hL1 X
    have cI0 := indexPath_any (cutA A1 c1 1 4) (c1 - 1) (w.heap.size + 1) (L.drop 1) path w1 (Sl.drop hS1 c1 1 hc1) (by rw [List.length_drop]; omega) (R1.out.cell 0)
    have hdl : (L.drop 1).length = L.length - 1 := by rw [List.length_drop]
    rw [hdl] at cI0
    have HS1 := Lib.hid hS1
    have hfi := idxP_find (L.drop 1) path
    generalize idxP (L.drop 1) path = ix at cI0 hfi
    have cI := Lib.hid cI0
    clear hb1 cB Q0 Q1 HB0 cI0 hS1
    go_wp2_with fail
    refine cI.out.mono ?_
    rintro e w2 ⟨rfl, hb2⟩
    have HB2 := Lib.hid (HB1.out.trans (hb2.mono HB1.out.size))
    have S0 := Lib.hid (R0.out.keep hb2)
    have S1 := Lib.hid (HS1.out.below hb2)
    clear hb2 cI R0 R1 HS1 rc
    rcases hfi with ⟨rfl, hf⟩ | ⟨k, hk, rfl, hf⟩
    · have HR2 := Lib.hid (show r = ([], 7) by rw [HR1.out, hf])
      clear hf HR1
      go_wp2
      rw [← hQ]
      exact retB_nil HR2.out HB2.out
    · have hk2 : k + 1 < L.length := by rw [hdl] at hk; omega
      obtain ⟨bL, offL, hA1, hbL, g0, g1, g2, g3⟩ := S1.out.mod hk2
      have hge : (L.drop 1)[k] = L[k + 1] := by rw [List.getElem_drop]; congr 1; omega
      have HGR := Lib.hid (HLM.out _ (List.getElem_mem hk))
      rw [hge] at hf HGR
      generalize L[k + 1] = g at g0 g1 g2 g3 hf HGR
      have HR2 := Lib.hid (show r = (chainUp (msort l0) (bfsF (regW Y) l0 g) (bfsF (regW Y) l0 g).length [g], 0) by rw [HR1.out, hf])
      subst hA1
      obtain ⟨K, hK⟩ : ∃ K, K = k + 1 := ⟨_, rfl⟩
      rw [← hK] at g0 g1 g2 g3 hk2
      have hwK : IntKind.i64.wrap ((k : Int) + 1) = (K : Int) := by simp [IntKind.wrap, IntKind.bits, IntKind.signed]; omega
      have hk0 : ¬ (k : Int) < 0 := by omega
      have hK2 : (K : Int) < (L.length : Int) := by omega
      have hLnn : l0 ≠ [] := fun e => by
        have h := HGR.out
        rw [e] at h
        have hno : ∀ m, ¬ Reach (regW Y) [] m := fun m hm => by induction hm with
          | base h1 => simp at h1
          | step _ _ ih => exact ih
        exact hno _ h
      have HNN := Lib.hid hLnn
      have U0 := Lib.hid (S0.out.keep ((Below.refl _ _).alloc (Nat.le_refl _) (.cells #[.string ⟨g.1.toArray⟩, .int .i64 g.2.1, .int .i64 g.2.2.1, .int .i64 g.2.2.2] 26)))
      have UG := Lib.hid (show Blk (w2.alloc (.cells #[.string ⟨g.1.toArray⟩, .int .i64 g.2.1, .int .i64 g.2.2.1, .int .i64 g.2.2.2] 26)) w2.heap.size 26 (modA g) from Blk.new _ _ _)
      have HBG := Lib.hid (HB2.out.alloc HB2.out.size (.cells #[.string ⟨g.1.toArray⟩, .int .i64 g.2.1, .int .i64 g.2.2.1, .int .i64 g.2.2.2] 26))
      have hzG : (w2.alloc (.cells #[.string ⟨g.1.toArray⟩, .int .i64 g.2.1, .int .i64 g.2.2.1, .int .i64 g.2.2.2] 26)).heap.size = w2.heap.size + 1 := by simp
      have cX0 := selIndex_any A c Y (w2.alloc (.cells #[.string ⟨g.1.toArray⟩, .int .i64 g.2.1, .int .i64 g.2.2.1, .int .i64 g.2.2.2] 26)) (HY.out.step HBG.out) HND.out
      rw [hzG] at cX0
      have cX := Lib.hid cX0
      clear hf hdl hge hLnn cX0 HR1 HLM hK hk
      go_wp2_with fail
      refine cX.out.mono ?_
      rintro e w3 ⟨rfl, hm3, hb3⟩
      have HB3 := Lib.hid (HBG.out.trans (hb3.mono (by have := HBG.out.size; omega)))
      have hbz : Below w3.heap.size w3 (w3.alloc (.map #[] 0)) := (Below.refl _ _).alloc (Nat.le_refl _) _
      have V0 := Lib.hid ((U0.out.keep (by rw [hzG]; exact hb3)).keep hbz)
      have VG := Lib.hid ((UG.out.keep (by rw [hzG]; exact hb3)).keep hbz)
      have VM := Lib.hid (hm3.below hbz)
      have VF := Lib.hid (show OMap KM (w3.alloc (.map #[] 0)) w3.heap.size 0 (fromF []) from (OMap.made KM w3).congr (fun a _ => rfl))
      have HBV := Lib.hid (HB3.out.alloc HB3.out.size (.map #[] 0))
      have hzV : (w3.alloc (.map #[] 0)).heap.size = w3.heap.size + 1 := by simp
      obtain ⟨v0, v1, v2, v3, v4⟩ := manC V0.out
      have hz3 : w2.heap.size + 1 < w3.heap.size := hm3.lt
      have cS0 := sorted_own rm A0 c0 l0 (w3.alloc (.map #[] 0)) ((H0.out.1.below HBV.out).more HBV.out.size) (by omega) HNN.out
      rw [hzV] at cS0
      have cS := Lib.hid cS0
      clear hm3 hb3 hbz cX cS0 U0 UG HBG S0
      go_wp2_with fail
      refine cS.out.mono ?_
      rintro e w4 ⟨A4, c4, rfl, hO4, hb4⟩
      have HB4 := Lib.hid (HBV.out.trans (hb4.mono (by have := HBV.out.size; omega)))
      have XG := Lib.hid (VG.out.keep (by rw [hzV]; exact hb4))
      have XM := Lib.hid (VM.out.below (by rw [hzV]; exact hb4))
      have XF := Lib.hid (VF.out.below (by rw [hzV]; exact hb4))
      have XS := Lib.hid (show OMap KM (w4.alloc (.map #[] 0)) w4.heap.size 0 (seenM []) from (OMap.made KM w4).congr (fun a _ => by simp [seenM]))
      have XO := Lib.hid hO4
      have hz4 := hb4.size
      rw [hzV] at hz4
      have hml : (msort l0).length = l0.length := msort_len l0
      have hfm := field_man rm A4 l0.length c4
      clear hb4 hO4 cS V0 VG VM VF HBV v0 v1 v2 v3 v4
      go_wp2_with fail
      go_loopw [53] (fun i wr => ∃ k : Nat, k ≤ l0.length ∧ i = .int .i64 (k : Nat) ∧ Hid (OMap KM wr w4.heap.size k (seenM ((msort l0).take k))) ∧ Hid (Below w4.heap.size w4 wr) ∧ w4.heap.size + 1 ≤ wr.heap.size) (fun i _ => l0.length - (intOf i).toNat)
      case atStart => exact ⟨0, Nat.zero_le _, rfl, XS, Lib.hid ((Below.refl _ _).alloc (Nat.le_refl _) _), by simp⟩
      case round =>
        obtain ⟨k1, hk1, rfl, HS, HBL, hzr⟩ := hrel
        have HOr := Lib.hid (own_below2 XO.out HBL.out)
        by_cases hlt : k1 < l0.length
        · have hlt' : (k1 : Int) < (l0.length : Int) := by omega
          have hltm : k1 < (msort l0).length := by omega
          obtain ⟨b4, off4, hA4, hb4, g0, g1, g2, g3⟩ := (Acc.slAny (.inl HOr.out) encM_len (by decide)).mod hltm
          have HMok := Lib.hid (show okB (msort l0)[k1] from H0.out.2.2 _ (List.mem_cons_of_mem _ (msort_mem.1 (List.getElem_mem hltm))))
          have HTk := Lib.hid (List.take_succ_eq_append_getElem hltm)
          generalize (msort l0)[k1] = m at g0 g1 g2 g3 HMok HTk
          subst hA4
          have hSA := HS.out.alloc (.cells #[.string ⟨m.1.toArray⟩, .int .i64 m.2.1, .int .i64 m.2.2.1, .int .i64 m.2.2.2] 26)
          obtain ⟨w5, hput, hm5, hg5⟩ := hSA.put Tryd.underlying59 (by unfold maxLen; omega) m HMok.out.ok (.bool true)
          rw [seenM_put, ← HTk.out] at hm5
          have hput' : (Instr.mapUpdate 59 (.map (some w4.heap.size)) (.agg #[.string ⟨m.1.toArray⟩, .int .i64 m.2.1, .int .i64 m.2.2.1, .int .i64 m.2.2.2]) (.bool true)).run Tryd.prog (wr.alloc (.cells #[.string ⟨m.1.toArray⟩, .int .i64 m.2.1, .int .i64 m.2.2.1, .int .i64 m.2.2.2] 26)) = _ := hput
          have M5 := Lib.hid hm5
          have HB5 := Lib.hid ((HBL.out.alloc HBL.out.size (.cells #[.string ⟨m.1.toArray⟩, .int .i64 m.2.1, .int .i64 m.2.2.1, .int .i64 m.2.2.2] 26)).grown hg5 (by simp; omega) (by simp))
          have hz5 := hg5.size
          rw [World.size_alloc] at hz5
          clear hput hm5 hg5 hSA HS HTk
          go_wp2
          go_roundw
          case rel => exact ⟨k1 + 1, by omega, by go_num, M5, HB5, by omega⟩
          case measure => simp [intOf]; omega
        · obtain rfl : k1 = l0.length := by omega
          rw [List.take_of_length_le (by omega)] at HS
          obtain ⟨U, hU⟩ : ∃ U, U = (univ (regW Y) l0).length := ⟨_, rfl⟩
          have hU2 : U ≤ 10100 := by
            have h3 := univ_len (regW Y) l0 (by simpa [regW] using hYl) (fun x hx => by
              obtain ⟨y, hy, rfl⟩ := List.mem_map.1 hx
              exact (HY.out.2.1 y hy).2.1)
            omega
          have HU := Lib.hid hU
          have HRok := Lib.hid (show ∀ m, Reach (regW Y) l0 m → okB m from fun m h => by
            rcases List.mem_append.1 h.univ with h1 | h1
            · exact H0.out.2.2 m (by simp [h1])
            · obtain ⟨x, hx, hmx⟩ := List.mem_flatMap.1 h1
              obtain ⟨y, hy, rfl⟩ := List.mem_map.1 hx
              exact (HY.out.2.1 y hy).2.2 m (List.mem_cons_of_mem _ hmx))
          have hT0 : (todoF (msort l0) []).length = l0.length := by simp [todoF, msort_len]
          have RI := Lib.hid (show RInv w wr g w2.heap.size (w2.heap.size + 1) w3.heap.size w4.heap.size l0.length (w3.heap.size + 1) Y l0 [] (.slice A4 l0.length c4) from
            ⟨blk_below XG.out HBL.out (by omega), XM.out.below HBL.out, XF.out.below HBL.out, HS.out, by rw [hT0]; unfold todoF; rw [List.map_nil, List.append_nil]; exact HOr.out, HB4.out.trans (HBL.out.mono HB4.out.size)⟩)
          have hzw : w4.heap.size + 1 ≤ wr.heap.size := hzr
          have HT0 := Lib.hid hT0
          clear hU hT0 XG XM XF XS XO HOr HS HBL HB4
          go_wp2
          go_loopw [14, 18] (fun v i wr => ∃ (k n : Nat) (F : List (Mod × Mod)) (Av : Option Addr) (cv : Nat), i = .int .i64 (k : Nat) ∧ v = .slice Av n cv ∧ k ≤ n ∧ n ≤ l0.length + U ∧ Hid (n = (todoF (msort l0) F).length) ∧ Hid (RInv w wr g w2.heap.size (w2.heap.size + 1) w3.heap.size w4.heap.size l0.length (w3.heap.size + 1) Y l0 F (.slice Av n cv)) ∧
            Hid (BInv (regW Y) l0 F) ∧ Hid (Closed (regW Y) l0 k F) ∧ Hid (bfsF (regW Y) l0 g = bfs (regW Y) (msort l0) g (l0.length + U + 1 - k) k F) ∧ w4.heap.size + 1 ≤ wr.heap.size) (fun _ i _ => l0.length + U + 1 - (intOf i).toNat)
          case atStart => exact ⟨0, l0.length, [], A4, c4, rfl, rfl, Nat.zero_le _, by omega, Lib.hid HT0.out.symm, RI, Lib.hid (BInv.start _ _), Lib.hid (fun j _ hj => by omega), Lib.hid (by rw [HU.out]; rfl), hzw⟩
          case round =>
            obtain ⟨wo, hwo⟩ : ∃ wo, wo = wr := ⟨_, rfl⟩
            subst hwo
            obtain ⟨k2, n, F, Av, cv, rfl, rfl, hkn, hnU, HN, HR, HI, HC, HF, hzo⟩ := hrel
            by_cases hlt2 : k2 < n
            · have hlt2' : (k2 : Int) < (n : Int) := by omega
              have hltT : k2 < (todoF (msort l0) F).length := by rw [← HN.out]; exact hlt2
              have HRn := Lib.hid (fun j => HR.out.below ((Below.refl _ _).drewN j))
              have HSn := Lib.hid (fun j => (Acc.slAny (.inl (by have h := (HRn.out j).row; rw [← HN.out] at h; exact h)) encM_len (by decide)).mod hltT)
              obtain ⟨b4, off4, hA4, hb4, g0, g1, g2, g3⟩ := (Acc.slAny (.inl (by have h := HR.out.row; rw [← HN.out] at h; exact h)) encM_len (by decide)).mod hltT
              have HPk := Lib.hid (List.getElem?_eq_getElem hltT)
              have HPr := Lib.hid (HI.out.rch _ (List.getElem_mem hltT))
              have HPm := Lib.hid (List.getElem_mem hltT)
              have heq := fun W => eq_mod (todoF (msort l0) F)[k2].1 g.1 (todoF (msort l0) F)[k2].2.1 (todoF (msort l0) F)[k2].2.2.1 (todoF (msort l0) F)[k2].2.2.2 g.2.1 g.2.2.1 g.2.2.2 W
              rw [mod_eta', mod_eta'] at heq
              generalize (todoF (msort l0) F)[k2] = p at g0 g1 g2 g3 HPk HPr HPm heq HSn
              subst hA4
              obtain ⟨u0, u1, u2, u3⟩ := modC HR.out.goal
              by_cases hpg : p = g
              · rw [decide_eq_true hpg] at heq
                go_wp2
                go_quiet (fail)
                obtain ⟨X, hX⟩ : ∃ X, X = wo.drewN nq := ⟨_, rfl⟩
                rw [← hX]
                have HRX := Lib.hid (HRn.out nq)
                rw [← hX] at HRX
                have hzX : w4.heap.size + 1 ≤ X.heap.size := by rw [hX]; exact hzo
                have HFIN := Lib.hid (show bfsF (regW Y) l0 g = F from HF.out.trans (bfs_hit (by rw [HPk.out, hpg]) _))
                have HGT := Lib.hid (show g ∈ todoF (msort l0) F from by rw [← hpg]; exact HPm.out)
                clear hX HRn HSn hpg heq HPk HPr HPm HR HF HC HN g0 g1 g2 g3 u0 u1 u2 u3
                obtain ⟨u0, u1, u2, u3⟩ := modC HRX.out.goal
                have HL1 := Lib.hid (show Acc (X.alloc (.cells #[.string ⟨g.1.toArray⟩, .int .i64 g.2.1, .int .i64 g.2.2.1, .int .i64 g.2.2.2] 26)) X.heap.size 26 4 (.slice (some ⟨X.heap.size, 0, none⟩) 1 1) 1 ([g].flatMap encM) from Acc.marked X #[.string ⟨g.1.toArray⟩, .int .i64 g.2.1, .int .i64 g.2.2.1, .int .i64 g.2.2.2] X.heap.size 26 4 1 (0, 0) rfl)
                have HBX := Lib.hid (show Below X.heap.size X (X.alloc (.cells #[.string ⟨g.1.toArray⟩, .int .i64 g.2.1, .int .i64 g.2.2.1, .int .i64 g.2.2.2] 26)) from (Below.refl _ _).alloc (Nat.le_refl _) _)
                have hFm : F.length < 1000000 := by have h := HI.out.len.1; rw [← HU.out] at h; omega
                have HR3 := Lib.hid (show r = (chainUp (msort l0) F F.length [g], 0) by rw [HR2.out, HFIN.out])
                go_wp2
                go_loopg [23] F.length (fun N v wr => ∃ (x : Mod) (rr : List Mod) (A : Option Addr) (c nn : Nat), v = .slice A nn c ∧ 0 < nn ∧ nn + N ≤ F.length + 1 ∧ Hid (nn = rr.length + 1) ∧ Hid (Acc wr X.heap.size 26 4 (.slice A nn c) nn ((x :: rr).flatMap encM)) ∧ Hid (x ∈ msort l0 ++ (F.map (·.1)).take N) ∧ Hid (chainUp (msort l0) F F.length [g] = chainUp (msort l0) F N (x :: rr)) ∧ Hid (Below X.heap.size X wr) ∧ X.heap.size + 1 ≤ wr.heap.size)
                case atStart => exact ⟨g, [], _, 1, 1, rfl, by decide, by omega, Lib.hid rfl, HL1, Lib.hid (by rw [List.take_of_length_le (by simp)]; exact HGT.out), Lib.hid rfl, HBX, by simp⟩
                case round =>
                  obtain ⟨x, rr, Aq, cq, nn, rfl, hnn, hnN, HNN2, HACC, HIN, HCH, HBW, hzw2⟩ := hrel
                  have hsl0 : 0 < (x :: rr).length := by simp
                  have hcap := HACC.out.cap
                  obtain ⟨b8, off8, hA8, hb8, g0, g1, g2, g3⟩ := (Acc.slAny HACC.out encM_len (by decide)).mod hsl0
                  rw [show (x :: rr)[0] = x from rfl] at g0 g1 g2 g3
                  simp only [Nat.zero_mul, Nat.add_zero] at g0 g1 g2 g3
                  subst hA8
                  have HRW := Lib.hid (HRX.out.below HBW.out)
                  have HXok := Lib.hid (show okB x from HRok.out x (HI.out.rch x (by
                    rcases List.mem_append.1 HIN.out with h | h
                    · exact List.mem_append_left _ h
                    · exact List.mem_append_right _ (List.mem_of_mem_take h))))
                  have hls := HRW.out.fst.look Tryd.underlying59 (zeroBool _) x HXok.out.ok
                  rw [seenM_get] at hls
                  have hls' : (Instr.lookup 59 (.map (some w4.heap.size)) (.agg #[.string ⟨x.1.toArray⟩, .int .i64 x.2.1, .int .i64 x.2.2.1, .int .i64 x.2.2.2]) false).run Tryd.prog wr = _ := hls
                  clear hls hsl0
                  by_cases hxf : x ∈ msort l0
                  · rw [decide_eq_true hxf] at hls'
                    have HE := Lib.hid (HCH.out.trans (chain_end hxf _))
                    clear hxf
                    go_wp2
                    rw [← hQ]
                    exact retB_some (r := r) (HR3.out.trans (by rw [HE.out])) (by rw [HNN2.out]; rfl) hcap (Acc.slAny HACC.out encM_len (by decide)) (HRX.out.bel.trans (HBW.out.mono HRX.out.bel.size))
                  · rw [decide_eq_false hxf] at hls'
                    obtain ⟨gk', p, hgk, hlp, hpin, _, hch⟩ := chain_step (r := rr) HI.out HIN.out hxf
                    have hlf := HRW.out.frm.look Tryd.underlying66 (modZero _) x HXok.out.ok
                    unfold fromF at hlf
                    rw [hlp] at hlf
                    have hlf' : (Instr.lookup 66 (.map (some w3.heap.size)) (.agg #[.string ⟨x.1.toArray⟩, .int .i64 x.2.1, .int .i64 x.2.2.1, .int .i64 x.2.2.2]) false).run Tryd.prog wr = .ok (.agg #[.string ⟨p.1.toArray⟩, .int .i64 p.2.1, .int .i64 p.2.2.1, .int .i64 p.2.2.2]) wr := hlf
                    have HPIN := Lib.hid hpin
                    have HCH2 := Lib.hid (HCH.out.trans hch)
                    have HGK := Lib.hid hgk
                    have hAC2 := HACC.out.alloc (.cells #[.string ⟨p.1.toArray⟩, .int .i64 p.2.1, .int .i64 p.2.2.1, .int .i64 p.2.2.2] 26)
                    have cI0 := insert_any nn wr.heap.size X.heap.size (.slice (some ⟨b8, off8, none⟩) nn cq) (x :: rr) p (wr.alloc (.cells #[.string ⟨p.1.toArray⟩, .int .i64 p.2.1, .int .i64 p.2.2.1, .int .i64 p.2.2.2] 26)) hAC2 hnn (by omega) (by simp; omega) (Blk.new wr 26 (modA p)) (fun e => by have h := HACC.out.own_lt e; omega)
                    have cI := Lib.hid cI0
                    clear hxf hlp hpin hch hlf hgk hAC2 cI0
                    go_wp2_with fail
                    refine cI.out.mono ?_
                    rintro e w8 ⟨A8, c8, rfl, hO8, hb8⟩
                    have HO8 := Lib.hid hO8
                    have HB8 := Lib.hid ((HBW.out.alloc HBW.out.size (.cells #[.string ⟨p.1.toArray⟩, .int .i64 p.2.1, .int .i64 p.2.2.1, .int .i64 p.2.2.2] 26)).trans hb8)
                    have hz8 := hb8.size
                    rw [World.size_alloc] at hz8
                    have hgk2 := HGK.out
                    have hm1 : gk' < gk := by omega
                    have hm2 : nn + 1 + gk' ≤ F.length + 1 := by omega
                    have hm3 := Lib.hid (show nn + 1 = (x :: rr).length + 1 by rw [HNN2.out]; rfl)
                    clear hO8 hb8 hgk2 cI
                    go_wp2
                    go_roundg gk'
                    case measure => exact hm1
                    case rel => exact ⟨p, x :: rr, A8, c8, nn + 1, rfl, by omega, hm2, hm3, Lib.hid (.inl HO8.out), HPIN, HCH2, HB8, by omega⟩
              · rw [decide_eq_false hpg] at heq
                go_wp2
                go_quiet (fail)
                obtain ⟨X, hX⟩ : ∃ X, X = wo.drewN nq := ⟨_, rfl⟩
                rw [← hX]
                have HRX := Lib.hid (HRn.out nq)
                have HSX := HSn.out nq
                rw [← hX] at HRX HSX
                have hzX : w4.heap.size + 1 ≤ X.heap.size := by rw [hX]; exact hzo
                obtain ⟨b5, off5, hA5, hb5, g0, g1, g2, g3⟩ := HSX
                injection hA5 with hA5
                injection hA5 with e1 e2
                subst e1 e2
                obtain ⟨mm, Am, cm, rl, hrl, hlk, hSm, hlm, hokm⟩ := reg_look p HRX.out.idx (HRok.out p HPr.out).ok (fun y hy => ((HY.out.2.1 y hy).keep HRX.out.bel).more HRX.out.bel.size)
                have cS0 := sorted_far mm Am cm (reqOf (regW Y) p) X hSm (by omega)
                rw [← hrl] at cS0 hlm
                have cS := Lib.hid cS0
                have HOKM := Lib.hid hokm
                have HRL := Lib.hid hrl
                have HPG := Lib.hid hpg
                have hrl2 : (msort (reqOf (regW Y) p)).length = rl := by rw [msort_len, hrl]
                have HRL2 := Lib.hid hrl2
                clear hX HRn HSn cS0 hSm hokm hrl hrl2 hpg heq
                go_wp2_with fail
                refine cS.out.mono ?_
                rintro e w5 ⟨A5, c5, rfl, hS5, hb5', hfar5⟩
                have hfm5 := field_man mm A5 rl c5
                have HR5 := Lib.hid (HRX.out.below hb5')
                have HS5 := Lib.hid hS5
                have HD5 := Lib.hid (show msort (reqOf (regW Y) p) = [] ∨ ∀ a, A5 = some a → (Value.slice (some ⟨b4, off4, none⟩) n cv).ownBlock ≠ some a.block ∧ a.block ≠ w3.heap.size from by
                  rcases hfar5 with h | h
                  · exact .inl (by rw [h]; simp [msort])
                  · refine .inr fun a ha => ?_
                    have h1 := h a ha
                    have h2 := HRX.out.frm.lt
                    exact ⟨fun e => by have h3 := (HRX.out.row.lt _ e).2; omega, by omega⟩)
                have hz5 := hb5'.size
                clear hS5 hb5' hfar5 cS hlk g0 g1 g2 g3
                go_wp2
                go_loopw [14, 81] (fun v i wx => ∃ (q n' : Nat) (F' : List (Mod × Mod)) (Av : Option Addr) (cv : Nat), i = .int .i64 (q : Nat) ∧ v = .slice Av n' cv ∧ q ≤ rl ∧ n' ≤ l0.length + U ∧ k2 < n' ∧ Hid (n' = (todoF (msort l0) F').length) ∧ Hid (RInv w wx g w2.heap.size (w2.heap.size + 1) w3.heap.size w4.heap.size l0.length (w3.heap.size + 1) Y l0 F' (.slice Av n' cv)) ∧ Hid (InnerI (regW Y) l0 k2 p F q F') ∧
                  Hid (Sl wx wx.heap.size 4 encM A5 (msort (reqOf (regW Y) p))) ∧ Hid (msort (reqOf (regW Y) p) = [] ∨ ∀ a, A5 = some a → (Value.slice Av n' cv).ownBlock ≠ some a.block ∧ a.block ≠ w3.heap.size) ∧ w4.heap.size + 1 ≤ wx.heap.size) (fun _ i _ => rl - (intOf i).toNat)
                case atStart => exact ⟨0, n, F, _, cv, rfl, rfl, Nat.zero_le _, hnU, hlt2, HN, HR5, Lib.hid (InnerI.start HI.out), HS5, HD5, by omega⟩
                case round =>
                  obtain ⟨q, n', F', Ax, cx, rfl, rfl, hq, hn', hkn', HN', HRI, HII, HSI, HDI, hzi⟩ := hrel
                  by_cases hqlt : q < rl
                  · have hqlt' : (q : Int) < (rl : Int) := by omega
                    have hqr : q < (msort (reqOf (regW Y) p)).length := by rw [HRL2.out]; exact hqlt
                    obtain ⟨b6, off6, hA6, hb6, g0, g1, g2, g3⟩ := HSI.out.mod hqr
                    have HMok := Lib.hid (show okB (msort (reqOf (regW Y) p))[q] from HOKM.out _ (msort_mem.1 (List.getElem_mem hqr)))
                    have HST := HII.out.step HPm.out hqr
                    generalize (msort (reqOf (regW Y) p))[q] = m at g0 g1 g2 g3 HMok HST
                    subst hA6
                    have HX1 := Lib.hid (show Below wr.heap.size wr (wr.alloc (.cells #[.string ⟨m.1.toArray⟩, .int .i64 m.2.1, .int .i64 m.2.2.1, .int .i64 m.2.2.2] 26)) from (Below.refl _ _).alloc (Nat.le_refl _) _)
                    have hlf := (HRI.out.frm.alloc (.cells #[.string ⟨m.1.toArray⟩, .int .i64 m.2.1, .int .i64 m.2.2.1, .int .i64 m.2.2.2] 26)).look_ok Tryd.underlying66 (modZero _) m HMok.out.ok
                    unfold fromF at hlf
                    unfold addF at HST
                    cases hkm : lookF F' m with
                    | some p' =>
                      rw [hkm] at hlf HST
                      have hlf' : (Instr.lookup 66 (.map (some w3.heap.size)) (.agg #[.string ⟨m.1.toArray⟩, .int .i64 m.2.1, .int .i64 m.2.2.1, .int .i64 m.2.2.2]) true).run Tryd.prog (wr.alloc (.cells #[.string ⟨m.1.toArray⟩, .int .i64 m.2.1, .int .i64 m.2.2.1, .int .i64 m.2.2.2] 26)) = .ok (.tuple #[(.agg #[.string ⟨p'.1.toArray⟩, .int .i64 p'.2.1, .int .i64 p'.2.2.1, .int .i64 p'.2.2.2]), .bool true]) (wr.alloc (.cells #[.string ⟨m.1.toArray⟩, .int .i64 m.2.1, .int .i64 m.2.2.1, .int .i64 m.2.2.2] 26)) := hlf
                      rw [if_neg (by simp)] at HST
                      have HST2 := Lib.hid HST
                      have HX2 := Lib.hid (HX1.out.alloc (by simp) (.cells #[.string ⟨p'.1.toArray⟩, .int .i64 p'.2.1, .int .i64 p'.2.2.1, .int .i64 p'.2.2.2] 26))
                      clear hlf HST hkm
                      go_wp2
                      go_roundw
                      case rel => exact ⟨q + 1, n', F', _, cx, by go_num, rfl, by omega, hn', hkn', HN', Lib.hid (HRI.out.below HX2.out), HST2, Lib.hid ((HSI.out.below HX2.out).more HX2.out.size), HDI, by have := HX2.out.size; omega⟩
                      case measure => simp [intOf]; omega
                    | none =>
                      rw [hkm] at hlf HST
                      have hlf' : (Instr.lookup 66 (.map (some w3.heap.size)) (.agg #[.string ⟨m.1.toArray⟩, .int .i64 m.2.1, .int .i64 m.2.2.1, .int .i64 m.2.2.2]) true).run Tryd.prog (wr.alloc (.cells #[.string ⟨m.1.toArray⟩, .int .i64 m.2.1, .int .i64 m.2.2.1, .int .i64 m.2.2.2] 26)) = .ok (.tuple #[(.agg #[.string ⟨zmod.1.toArray⟩, .int .i64 zmod.2.1, .int .i64 zmod.2.2.1, .int .i64 zmod.2.2.2]), .bool false]) (wr.alloc (.cells #[.string ⟨m.1.toArray⟩, .int .i64 m.2.1, .int .i64 m.2.2.1, .int .i64 m.2.2.2] 26)) := hlf
                      have HKM := Lib.hid hkm
                      have HX2 := Lib.hid (HX1.out.alloc (by simp) (.cells #[.string ⟨zmod.1.toArray⟩, .int .i64 zmod.2.1, .int .i64 zmod.2.2.1, .int .i64 zmod.2.2.2] 26))
                      have hls := (HRI.out.below HX2.out).fst.look Tryd.underlying59 (zeroBool _) m HMok.out.ok
                      rw [seenM_get] at hls
                      have hls' : (Instr.lookup 59 (.map (some w4.heap.size)) (.agg #[.string ⟨m.1.toArray⟩, .int .i64 m.2.1, .int .i64 m.2.2.1, .int .i64 m.2.2.2]) false).run Tryd.prog ((wr.alloc (.cells #[.string ⟨m.1.toArray⟩, .int .i64 m.2.1, .int .i64 m.2.2.1, .int .i64 m.2.2.2] 26)).alloc (.cells #[.string ⟨zmod.1.toArray⟩, .int .i64 zmod.2.1, .int .i64 zmod.2.2.1, .int .i64 zmod.2.2.2] 26)) = _ := hls
                      clear hlf hls hkm
                      by_cases hmf : m ∈ msort l0
                      · rw [decide_eq_true hmf] at hls'
                        rw [if_neg (fun h => h.2 hmf)] at HST
                        have HST2 := Lib.hid HST
                        clear HST hmf
                        go_wp2
                        go_roundw
                        case rel => exact ⟨q + 1, n', F', _, cx, by go_num, rfl, by omega, hn', hkn', HN', Lib.hid (HRI.out.below HX2.out), HST2, Lib.hid ((HSI.out.below HX2.out).more HX2.out.size), HDI, by have := HX2.out.size; omega⟩
                        case measure => simp [intOf]; omega
                      · rw [decide_eq_false hmf] at hls'
                        rw [if_pos ⟨rfl, hmf⟩] at HST
                        have HST2 := Lib.hid HST
                        clear HST hmf
                        have hlen' : k2 < (todoF (msort l0) F').length := by rw [← HN'.out]; exact hkn'
                        have hpk : (todoF (msort l0) F')[k2] = p := by
                          obtain ⟨Z, hZ⟩ := HII.out.pre
                          have e : (todoF (msort l0) F')[k2]? = some p := by rw [hZ, List.getElem?_append_left (List.getElem?_eq_some_iff.1 HPk.out).1]; exact HPk.out
                          exact (List.getElem?_eq_some_iff.1 e).2
                        have HRD := Lib.hid (HRI.out.below HX2.out.drew)
                        obtain ⟨b7, off7, hA7, hb7, e0, e1, e2, e3⟩ := (Acc.slAny (.inl (by have h := HRD.out.row; rw [← HN'.out] at h; exact h)) encM_len (by decide)).mod hlen'
                        rw [hpk] at e0 e1 e2 e3
                        subst hA7
                        have MB := Lib.hid (show Blk (((wr.alloc (.cells #[.string ⟨m.1.toArray⟩, .int .i64 m.2.1, .int .i64 m.2.2.1, .int .i64 m.2.2.2] 26)).alloc (.cells #[.string ⟨zmod.1.toArray⟩, .int .i64 zmod.2.1, .int .i64 zmod.2.2.1, .int .i64 zmod.2.2.2] 26)).drew) wr.heap.size 26 (modA m) from (Blk.new wr 26 (modA m)).keep ((Below.refl _ _).alloc (Nat.le_refl _) _).drew)
                        obtain ⟨m0, m1, m2, m3⟩ := modC MB.out
                        obtain ⟨w6, hput, hmb6, A7, c7, w7, hap, hR7, hS7, hD7, hz7⟩ := rinv_new (p := p) HRI.out HX2.out.drew MB.out (by omega) HMok.out.ok HKM.out (by have := HII.out.inv.len.1; rw [← HU.out] at this; unfold maxLen; omega) (by omega) (by omega) (by have := HB3.out.size; omega) HN'.out (by omega) (by omega) (by omega) (by have := HB3.out.size; omega) HSI.out HDI.out
                        obtain ⟨n0, n1, n2, n3⟩ := modC hmb6
                        have HR7 := Lib.hid hR7
                        have HS7 := Lib.hid hS7
                        have HD7 := Lib.hid hD7
                        have HT7 := Lib.hid (show n' + 1 = (todoF (msort l0) (F' ++ [(m, p)])).length by rw [todoF_snoc, List.length_append, ← HN'.out]; rfl)
                        have hn7 : n' + 1 ≤ l0.length + U := by rw [HT7.out, HU.out]; exact HST2.out.inv.len.2
                        have hz7' : w4.heap.size + 1 ≤ w7.heap.size := by have h1 := HX2.out.size; have h2 := hz7; simp at h1 h2; omega
                        clear hmb6 hR7 hS7 hD7 hpk hlen' hz7
                        go_wp2
                        go_region
                        go_wp2_with (at_builtin; refine wpList_app1 rfl _ _ _ _ rfl _ _ rfl rfl hap ?_)
                        go_roundw
                        case rel => exact ⟨q + 1, n' + 1, F' ++ [(m, p)], A7, c7, by go_num, rfl, by omega, hn7, by omega, HT7, HR7, HST2, HS7, HD7, hz7'⟩
                        case measure => simp [intOf]; omega
                  · have hqe : q = rl := by omega
                    have hI2 := HII.out
                    rw [hqe, ← HRL2.out] at hI2
                    obtain ⟨hd1, hd2⟩ := hI2.done HC.out HPk.out
                    have HI2 := Lib.hid hI2.inv
                    have HC2 := Lib.hid hd2
                    have HF2 := Lib.hid (show bfsF (regW Y) l0 g = bfs (regW Y) (msort l0) g (l0.length + U + 1 - (k2 + 1)) (k2 + 1) F' by
                      rw [HF.out, show l0.length + U + 1 - k2 = (l0.length + U + 1 - (k2 + 1)) + 1 by omega, bfs_step HPk.out HPG.out, ← hd1])
                    clear hI2 hd1 hd2
                    subst hqe
                    go_wp2
                    go_roundw
                    case rel => exact ⟨k2 + 1, n', F', _, cx, by go_num, rfl, by omega, hn', HN', HRI, HI2, HC2, HF2, hzi⟩
                    case measure => simp [intOf]; omega
            · obtain rfl : k2 = n := by omega
              have HFIN := Lib.hid (show bfsF (regW Y) l0 g = F from HF.out.trans (bfs_end (List.getElem?_eq_none (by rw [← HN.out]; exact Nat.le_refl _)) _))
              have HGT := Lib.hid (show g ∈ todoF (msort l0) F from by
                have h := HC.out
                rw [HN.out] at h
                exact h.all HGR.out)
              have HRX := HR
              have hzX := hzo
              clear HF HC HN
              obtain ⟨u0, u1, u2, u3⟩ := modC HRX.out.goal
              have HL1 := Lib.hid (show Acc (wo.alloc (.cells #[.string ⟨g.1.toArray⟩, .int .i64 g.2.1, .int .i64 g.2.2.1, .int .i64 g.2.2.2] 26)) wo.heap.size 26 4 (.slice (some ⟨wo.heap.size, 0, none⟩) 1 1) 1 ([g].flatMap encM) from Acc.marked wo #[.string ⟨g.1.toArray⟩, .int .i64 g.2.1, .int .i64 g.2.2.1, .int .i64 g.2.2.2] wo.heap.size 26 4 1 (0, 0) rfl)
              have HBX := Lib.hid (show Below wo.heap.size wo (wo.alloc (.cells #[.string ⟨g.1.toArray⟩, .int .i64 g.2.1, .int .i64 g.2.2.1, .int .i64 g.2.2.2] 26)) from (Below.refl _ _).alloc (Nat.le_refl _) _)
              have hFm : F.length < 1000000 := by have h := HI.out.len.1; rw [← HU.out] at h; omega
              have HR3 := Lib.hid (show r = (chainUp (msort l0) F F.length [g], 0) by rw [HR2.out, HFIN.out])
              go_wp2
              go_loopg [23] F.length (fun N v wr => ∃ (x : Mod) (rr : List Mod) (A : Option Addr) (c nn : Nat), v = .slice A nn c ∧ 0 < nn ∧ nn + N ≤ F.length + 1 ∧ Hid (nn = rr.length + 1) ∧ Hid (Acc wr wo.heap.size 26 4 (.slice A nn c) nn ((x :: rr).flatMap encM)) ∧ Hid (x ∈ msort l0 ++ (F.map (·.1)).take N) ∧ Hid (chainUp (msort l0) F F.length [g] = chainUp (msort l0) F N (x :: rr)) ∧ Hid (Below wo.heap.size wo wr) ∧ wo.heap.size + 1 ≤ wr.heap.size)
              case atStart => exact ⟨g, [], _, 1, 1, rfl, by decide, by omega, Lib.hid rfl, HL1, Lib.hid (by rw [List.take_of_length_le (by simp)]; exact HGT.out), Lib.hid rfl, HBX, by simp⟩
              case round =>
                obtain ⟨x, rr, Aq, cq, nn, rfl, hnn, hnN, HNN2, HACC, HIN, HCH, HBW, hzw2⟩ := hrel
                have hsl0 : 0 < (x :: rr).length := by simp
                have hcap := HACC.out.cap
                obtain ⟨b8, off8, hA8, hb8, g0, g1, g2, g3⟩ := (Acc.slAny HACC.out encM_len (by decide)).mod hsl0
                rw [show (x :: rr)[0] = x from rfl] at g0 g1 g2 g3
                simp only [Nat.zero_mul, Nat.add_zero] at g0 g1 g2 g3
                subst hA8
                have HRW := Lib.hid (HRX.out.below HBW.out)
                have HXok := Lib.hid (show okB x from HRok.out x (HI.out.rch x (by
                  rcases List.mem_append.1 HIN.out with h | h
                  · exact List.mem_append_left _ h
                  · exact List.mem_append_right _ (List.mem_of_mem_take h))))
                have hls := HRW.out.fst.look Tryd.underlying59 (zeroBool _) x HXok.out.ok
                rw [seenM_get] at hls
                have hls' : (Instr.lookup 59 (.map (some w4.heap.size)) (.agg #[.string ⟨x.1.toArray⟩, .int .i64 x.2.1, .int .i64 x.2.2.1, .int .i64 x.2.2.2]) false).run Tryd.prog wr = _ := hls
                clear hls hsl0
                by_cases hxf : x ∈ msort l0
                · rw [decide_eq_true hxf] at hls'
                  have HE := Lib.hid (HCH.out.trans (chain_end hxf _))
                  clear hxf
                  go_wp2
                  rw [← hQ]
                  exact retB_some (r := r) (HR3.out.trans (by rw [HE.out])) (by rw [HNN2.out]; rfl) hcap (Acc.slAny HACC.out encM_len (by decide)) (HRX.out.bel.trans (HBW.out.mono HRX.out.bel.size))
                · rw [decide_eq_false hxf] at hls'
                  obtain ⟨gk', p, hgk, hlp, hpin, _, hch⟩ := chain_step (r := rr) HI.out HIN.out hxf
                  have hlf := HRW.out.frm.look Tryd.underlying66 (modZero _) x HXok.out.ok
                  unfold fromF at hlf
                  rw [hlp] at hlf
                  have hlf' : (Instr.lookup 66 (.map (some w3.heap.size)) (.agg #[.string ⟨x.1.toArray⟩, .int .i64 x.2.1, .int .i64 x.2.2.1, .int .i64 x.2.2.2]) false).run Tryd.prog wr = .ok (.agg #[.string ⟨p.1.toArray⟩, .int .i64 p.2.1, .int .i64 p.2.2.1, .int .i64 p.2.2.2]) wr := hlf
                  have HPIN := Lib.hid hpin
                  have HCH2 := Lib.hid (HCH.out.trans hch)
                  have HGK := Lib.hid hgk
                  have hAC2 := HACC.out.alloc (.cells #[.string ⟨p.1.toArray⟩, .int .i64 p.2.1, .int .i64 p.2.2.1, .int .i64 p.2.2.2] 26)
                  have cI0 := insert_any nn wr.heap.size wo.heap.size (.slice (some ⟨b8, off8, none⟩) nn cq) (x :: rr) p (wr.alloc (.cells #[.string ⟨p.1.toArray⟩, .int .i64 p.2.1, .int .i64 p.2.2.1, .int .i64 p.2.2.2] 26)) hAC2 hnn (by omega) (by simp; omega) (Blk.new wr 26 (modA p)) (fun e => by have h := HACC.out.own_lt e; omega)
                  have cI := Lib.hid cI0
                  clear hxf hlp hpin hch hlf hgk hAC2 cI0
                  go_wp2_with fail
                  refine cI.out.mono ?_
                  rintro e w8 ⟨A8, c8, rfl, hO8, hb8⟩
                  have HO8 := Lib.hid hO8
                  have HB8 := Lib.hid ((HBW.out.alloc HBW.out.size (.cells #[.string ⟨p.1.toArray⟩, .int .i64 p.2.1, .int .i64 p.2.2.1, .int .i64 p.2.2.2] 26)).trans hb8)
                  have hz8 := hb8.size
                  rw [World.size_alloc] at hz8
                  have hgk2 := HGK.out
                  have hm1 : gk' < gk := by omega
                  have hm2 : nn + 1 + gk' ≤ F.length + 1 := by omega
                  have hm3 := Lib.hid (show nn + 1 = (x :: rr).length + 1 by rw [HNN2.out]; rfl)
                  clear hO8 hb8 hgk2 cI
                  go_wp2
                  go_roundg gk'
                  case measure => exact hm1
                  case rel => exact ⟨p, x :: rr, A8, c8, nn + 1, rfl, by omega, hm2, hm3, Lib.hid (.inl HO8.out), HPIN, HCH2, HB8, by omega⟩
  · have he : (e1 != 0) = true := by simpa using he1
    have HR1 := Lib.hid (HR.out.trans (if_neg he1))
    clear HR he1 hnd hlist
    go_enter Tryd.func16, Tryd.ntmps16
    go_wp2_with fail
    refine (cB.out _ HB0.out).mono ?_
    rintro e w1 ⟨A1, c1, rfl, _, _, hb1⟩
    have HB1 := Lib.hid (HB0.out.trans (hb1.mono HB0.out.size))
    clear hb1 cB
    go_wp2
    rw [← hQ]
    exact retB_nil HR1.out HB1.out
end Go.Proofs.YtfiilbdkhelhgaaDoor
