/- Walks: the manifest that a text describes (manifest.Parse: a range over a function). -/
import Derived.Test.YtbbdoibmcmkmnaaGreatDoorSP
import Derived.Test.YtbbdoibmcmkmnaaGreatDoorLN
import Derived.Test.YtbbdoibmcmkmnaaGreatDoorR17
import Derived.Deep.RegionWith
import Derived.Test.YtbbdoibmcmkmnaaGreatDoorWN
import Derived.Test.YtbbdoibmcmkmnaaGreatDoorPX
namespace Go.Proofs.YtbbdoibmcmkmnaaGreatDoor
open Go.RowKit Go.Shelf
attribute [local go_sem] Oper.semAt_some

theorem lines_any (s : List UInt8) (w : World) :
    Calls Tryz.prog 44 #[.string ⟨s.toArray⟩] w fun e w' => e = .returned (.func (.func 61) #[] #[.pointer (some ⟨w.heap.size, 0, none⟩)]) ∧ w' = w.alloc (.cells #[.string ⟨s.toArray⟩] 9) := by
  go_enter Tryz.func44, Tryz.ntmps44
  go_wp2
  go_ret
  exact ⟨rfl, rfl⟩
/-- a manifest and a fault in new memory -/
def RetMan (w : World) (r : MRes) (e : Ending) (w' : World) : Prop :=
  ∃ A c, e = .returned (.tuple #[.agg #[.string ⟨r.1.1.1.toArray⟩, .int .i64 r.1.1.2.1, .int .i64 r.1.1.2.2.1, .int .i64 r.1.1.2.2.2, .slice A r.1.2.length c], .agg #[.int .i64 r.2.1, .int .i64 (r.2.2 : Nat)]]) ∧ Sl w' w'.heap.size 4 encM A r.1.2 ∧ Below w.heap.size w w'

/-- a post that is asked at the normal end alone -/
abbrev onlyN (Q : Exit → Act → World → Prop) : Exit → Act → World → Prop := fun e a w => match e with
  | .normal => Q .normal a w
  | _ => False
theorem wp_only {P : Program} {c : Code} {Q : Exit → Act → World → Prop} {a : Act} {w : World} (h : c.wp P (onlyN Q) a w) : c.wp P Q a w :=
  Go.wp_mono h (fun e _ _ h => by cases e <;> first | exact h | exact False.elim h)
theorem wp_cut {P : Program} {c : Code} {Q : Exit → Act → World → Prop} {a : Act} {w : World} (C : Act → World → Prop) (h : c.wp P (onlyN (fun _ => C)) a w) (hc : ∀ a' w', C a' w' → Q .normal a' w') : c.wp P Q a w :=
  Go.wp_mono h (fun e a' w' h => by cases e <;> first | exact hc _ _ h | exact False.elim h)
/-- the modules of the lines that have come -/
def lstOf (pre : List Wd) : List Mod := (colL (some []) (wds pre)).getD []
def manZ : Array Value := #[.string ⟨#[]⟩, .int .i64 0, .int .i64 0, .int .i64 0, .slice none 0 0]
/-- between two rounds -/
def PInv (w : World) (pre : List Wd) (W : World) : Prop :=
  colL (some []) (wds pre) = some (lstOf pre) ∧ (∃ v, Blk W (w.heap.size + 1 + 1) 26 #[v] ∧ W.ownsRow (w.heap.size + 5) 25 4 v (lstOf pre).length ((lstOf pre).flatMap encM)) ∧
  Blk W (w.heap.size + 1 + 1 + 1) 3 #[.int .i64 (pre.length : Nat)] ∧ Blk W w.heap.size 28 manZ ∧ Blk W (w.heap.size + 1) 38 #[.int .i64 0, .int .i64 0] ∧ Below w.heap.size w W
/-- where a line is at fault -/
def PIx (w : World) (c : Code) (pre : List Wd) (W : World) : Prop :=
  c = .ret ∧ (∃ p x l, wds pre = p ++ [x] ∧ colL (some []) p = some l ∧ stepL l x = none) ∧ Blk W w.heap.size 28 manZ ∧ Blk W (w.heap.size + 1) 38 #[.int .i64 8, .int .i64 (pre.length : Nat)] ∧ Below w.heap.size w W
theorem blk_grow {W W' : World} {row : Option Nat} {b B : Nat} {t : TypeId} {cs : Array Value} (h : Blk W b t cs) (hb : b < B) (hg : W.grownBy W' row) (hr : ∀ r, row = some r → B ≤ r ∧ ∃ o : Obj, W.heap[r]? = some o ∧ o.isCells = false) : Blk W' b t cs :=
  (hg.block b h.lt (fun e => by have := (hr b e.symm).1; omega)).trans h
theorem own_grow {W W' : World} {row : Option Nat} {base e size n B : Nat} {v : Value} {xs : List Value} (h : W.ownsRow base e size v n xs) (hg : W.grownBy W' row) (hr : ∀ r, row = some r → B ≤ r ∧ ∃ o : Obj, W.heap[r]? = some o ∧ o.isCells = false) : W'.ownsRow base e size v n xs :=
  h.kept hg (by
    rcases h.2 with ⟨rfl, _⟩ | ⟨g, cap, cur, rfl, _, hgb, _⟩
    · exact .inl rfl
    · refine .inr fun e' => ?_
      obtain ⟨_, o, ho, hc⟩ := hr g (by simpa [Value.ownBlock] using e'.symm)
      rw [hgb] at ho
      cases ho
      cases hc)
theorem pinv_own (w : World) (B : Nat) (hB : w.heap.size + 5 ≤ B) : OwnFrom B (PInv w) := by
  rintro s W W' row ⟨h1, ⟨v, h2, h3⟩, h4, h5, h6, h7⟩ hg hr
  exact ⟨h1, ⟨v, blk_grow h2 (by omega) hg hr, own_grow h3 hg hr⟩, blk_grow h4 (by omega) hg hr, blk_grow h5 (by omega) hg hr, blk_grow h6 (by omega) hg hr, ownFrom_below (β := List Wd) (Nat.le_refl _) (by omega : w.heap.size ≤ B) s W W' row h7 hg hr⟩
theorem pix_own (w : World) (B : Nat) (hB : w.heap.size + 5 ≤ B) (c : Code) : OwnFrom B (PIx w c) := by
  rintro s W W' row ⟨h1, h2, h5, h6, h7⟩ hg hr
  exact ⟨h1, h2, blk_grow h5 (by omega) hg hr, blk_grow h6 (by omega) hg hr, ownFrom_below (β := List Wd) (Nat.le_refl _) (by omega : w.heap.size ≤ B) s W W' row h7 hg hr⟩
theorem own_apart {W : World} {base e size n : Nat} {v : Value} {xs : List Value} (h : W.ownsRow base e size v n xs) {b : Nat} (hb : b < base) : v.ownBlock ≠ some b := fun e => by have := (h.lt _ e).1; omega
theorem pinv_set (w : World) (s : List Wd) (W : World) (u : Value) (h : PInv w s W) : PInv w s (W.setCell ⟨w.heap.size + 1 + 1 + 1 + 1, 0, none⟩ u) := by
  obtain ⟨h1, ⟨v, h2, h3⟩, h4, h5, h6, h7⟩ := h
  exact ⟨h1, ⟨v, h2.far (by simp) _, h3.kept (grownBy_setCell' W _ u) (.inr (own_apart h3 (by omega)))⟩, h4.far (by simp) _, h5.far (by show w.heap.size ≠ w.heap.size + 1 + 1 + 1 + 1; omega) _, h6.far (by show w.heap.size + 1 ≠ w.heap.size + 1 + 1 + 1 + 1; omega) _, h7.setCell (p := ⟨w.heap.size + 1 + 1 + 1 + 1, 0, none⟩) (by show w.heap.size ≤ w.heap.size + 1 + 1 + 1 + 1; omega) _⟩
theorem kpl_trans {n0 Bs : Nat} {A B C : World} (h : KpL n0 Bs A B) (k : KpL n0 Bs B C) : KpL n0 Bs A C := ⟨k.1.trans h.1, k.2.1.trans h.2.1, h.2.2.trans k.2.2⟩
theorem kpl_put {n0 Bs B : Nat} (h0 : n0 ≤ Bs) (hB : Bs < B) (_ : n0 ≤ B) (W : World) (l : Nat) (o o' : Obj) (hl : B ≤ l) (hW : W.heap[l]? = some o) (_ : o.isCells = false) : KpL n0 Bs W (W.putObj l o') := by
  have hlt : l < W.heap.size := (Array.getElem?_eq_some_iff.1 hW).1
  exact ⟨World.cell?_of_block (World.putObj_heap_other (by show Bs ≠ l; omega)), World.frozen?_of_block (World.putObj_heap_other (by show Bs ≠ l; omega)), (Below.refl n0 W).grown (grownBy_putObj' W l o') (by omega) (fun k e => by cases e; omega)⟩
theorem colL_none (X : List (List (List UInt8))) : colL none X = none := by
  induction X with
  | nil => rfl
  | cons x X ih => exact ih
theorem colL_len : ∀ (X : List (List (List UInt8))) (l l' : List Mod), colL (some l) X = some l' → l'.length ≤ l.length + X.length
  | [], l, l', h => by
    have h' : some l = some l' := h
    injection h' with h'
    subst h'
    simp
  | x :: X, l, l', h => by
    have h' : colL (stepL l x) X = some l' := h
    cases hs : stepL l x with
    | none => rw [hs, colL_none] at h'; cases h'
    | some l2 =>
      rw [hs] at h'
      have ih := colL_len X l2 l' h'
      have h2 : l2.length ≤ l.length + 1 := by
        unfold stepL at hs
        split at hs
        · injection hs with hs; subst hs; omega
        · cases hm : wordM (firstW l) x with
          | none => rw [hm] at hs; cases hs
          | some m => rw [hm] at hs; injection hs with hs; subst hs; simp
      simp only [List.length_cons]
      omega
theorem colL_paths : ∀ (X : List (List (List UInt8))) (l l' : List Mod), colL (some l) X = some l' → (∀ x ∈ l, x.1.length ≤ 60) → ∀ x ∈ l', x.1.length ≤ 60
  | [], l, l', h, hl => by
    have h' : some l = some l' := h
    injection h' with h'
    subst h'
    exact hl
  | ws :: X, l, l', h, hl => by
    have h' : colL (stepL l ws) X = some l' := h
    cases hs : stepL l ws with
    | none => rw [hs, colL_none] at h'; cases h'
    | some l2 =>
      rw [hs] at h'
      refine colL_paths X l2 l' h' ?_
      unfold stepL at hs
      split at hs
      · injection hs with hs; subst hs; exact hl
      · cases hm : wordM (firstW l) ws with
        | none => rw [hm] at hs; cases hs
        | some m =>
          rw [hm] at hs
          injection hs with hs
          subst hs
          intro x hx
          rcases List.mem_append.1 hx with hx | hx
          · exact hl x hx
          · obtain rfl : x = m := by simpa using hx
            unfold wordM at hm
            split at hm
            · split at hm
              · rename_i hc
                cases hv : vparse _ with
                | none => rw [hv] at hm; cases hm
                | some v => rw [hv] at hm; injection hm with hm; subst hm; exact pathOk_len _ hc.2
              · cases hm
            · cases hm
theorem pinv_next {w W' : World} {pre : List Wd} {x : Wd} {L : List Mod} {v : Value} (h1 : colL (some []) (wds (pre ++ [x])) = some L) (h2 : Blk W' (w.heap.size + 1 + 1) 26 #[v]) (h3 : W'.ownsRow (w.heap.size + 5) 25 4 v L.length (L.flatMap encM))
    (h4 : Blk W' (w.heap.size + 1 + 1 + 1) 3 #[.int .i64 ((pre.length : Int) + 1)]) (h5 : Blk W' w.heap.size 28 manZ) (h6 : Blk W' (w.heap.size + 1) 38 #[.int .i64 0, .int .i64 0]) (h7 : Below w.heap.size w W') : PInv w (pre ++ [x]) W' := by
  have hl : lstOf (pre ++ [x]) = L := by unfold lstOf; rw [h1]; rfl
  have hn : (((pre ++ [x]).length : Nat) : Int) = (pre.length : Int) + 1 := by simp
  unfold PInv
  rw [hl, hn]
  exact ⟨h1, ⟨v, h2, h3⟩, h4, h5, h6, h7⟩
theorem pix_next {w W' : World} {pre : List Wd} {x : Wd} {L : List Mod} (h1 : colL (some []) (wds pre) = some L) (hx : stepL L x.2.2 = none) (h5 : Blk W' w.heap.size 28 manZ)
    (h6 : Blk W' (w.heap.size + 1) 38 #[.int .i64 8, .int .i64 ((pre.length : Int) + 1)]) (h7 : Below w.heap.size w W') : PIx w .ret (pre ++ [x]) W' := by
  have hn : (((pre ++ [x]).length : Nat) : Int) = (pre.length : Int) + 1 := by simp
  unfold PIx
  rw [hn]
  exact ⟨rfl, ⟨_, _, _, wds_snoc _ _, h1, hx⟩, h5, h6, h7⟩
/-- the fault is stored -/
def FaultW (w W1 X : World) (q n : Int) : Prop := Blk X w.heap.size 28 manZ ∧ Blk X (w.heap.size + 1) 38 #[.int .i64 q, .int .i64 n] ∧ Below w.heap.size w X ∧ KeepsOthers W1 X
theorem FaultW.drew {w W1 X : World} {q n : Int} (h : FaultW w W1 X q n) : FaultW w W1 X.drew q n := ⟨h.1, h.2.1, h.2.2.1.drew, h.2.2.2.trans (KeepsOthers.drew _)⟩
theorem FaultW.manA {w W1 : World} (hm : Blk W1 w.heap.size 28 manZ) {m : Array Value} (hf : Blk W1 (w.heap.size + 1) 38 m) (hb : Below w.heap.size w W1) :
    Blk ((((((W1.setCell ⟨w.heap.size, 0, none⟩ (.string ⟨#[]⟩)).setCell ⟨w.heap.size, 1, none⟩ (.int .i64 0)).setCell ⟨w.heap.size, 2, none⟩ (.int .i64 0)).setCell ⟨w.heap.size, 3, none⟩ (.int .i64 0)).setCell ⟨w.heap.size, 4, none⟩ (.slice none 0 0))) w.heap.size 28 manZ ∧ Blk ((((((W1.setCell ⟨w.heap.size, 0, none⟩ (.string ⟨#[]⟩)).setCell ⟨w.heap.size, 1, none⟩ (.int .i64 0)).setCell ⟨w.heap.size, 2, none⟩ (.int .i64 0)).setCell ⟨w.heap.size, 3, none⟩ (.int .i64 0)).setCell ⟨w.heap.size, 4, none⟩ (.slice none 0 0))) (w.heap.size + 1) 38 m ∧ Below w.heap.size w ((((((W1.setCell ⟨w.heap.size, 0, none⟩ (.string ⟨#[]⟩)).setCell ⟨w.heap.size, 1, none⟩ (.int .i64 0)).setCell ⟨w.heap.size, 2, none⟩ (.int .i64 0)).setCell ⟨w.heap.size, 3, none⟩ (.int .i64 0)).setCell ⟨w.heap.size, 4, none⟩ (.slice none 0 0))) ∧ KeepsOthers W1 ((((((W1.setCell ⟨w.heap.size, 0, none⟩ (.string ⟨#[]⟩)).setCell ⟨w.heap.size, 1, none⟩ (.int .i64 0)).setCell ⟨w.heap.size, 2, none⟩ (.int .i64 0)).setCell ⟨w.heap.size, 3, none⟩ (.int .i64 0)).setCell ⟨w.heap.size, 4, none⟩ (.slice none 0 0))) := by
  have ne : w.heap.size + 1 ≠ w.heap.size := by omega
  exact ⟨(((((hm.set_ 0 _).set_ 1 _).set_ 2 _).set_ 3 _).set_ 4 _), (((((hf.far ne _).far ne _).far ne _).far ne _).far ne _),
    ((((hb.setCell (Nat.le_refl _) _).setCell (Nat.le_refl _) _).setCell (Nat.le_refl _) _).setCell (Nat.le_refl _) _).setCell (Nat.le_refl _) _,
    ((((KeepsOthers.setCell _ _ _).trans (KeepsOthers.setCell _ _ _)).trans (KeepsOthers.setCell _ _ _)).trans (KeepsOthers.setCell _ _ _)).trans (KeepsOthers.setCell _ _ _)⟩
theorem FaultW.fltA {w W1 : World} {q n : Int} (hm : Blk W1 w.heap.size 28 manZ) (hf : Blk W1 (w.heap.size + 1) 38 #[.int .i64 0, .int .i64 0]) (hb : Below w.heap.size w W1) :
    FaultW w W1 (((W1.setCell ⟨w.heap.size + 1, 0, none⟩ (.int .i64 q)).setCell ⟨w.heap.size + 1, 1, none⟩ (.int .i64 n))) q n := by
  have ne : w.heap.size ≠ w.heap.size + 1 := by omega
  exact ⟨(hm.far ne _).far ne _, (hf.set_ 0 _).set_ 1 _, (hb.setCell (Nat.le_succ _) _).setCell (Nat.le_succ _) _, (KeepsOthers.setCell _ _ _).trans (KeepsOthers.setCell _ _ _)⟩
theorem faultA {w W1 : World} {q n : Int} (hm : Blk W1 w.heap.size 28 manZ) (hf : Blk W1 (w.heap.size + 1) 38 #[.int .i64 0, .int .i64 0]) (hb : Below w.heap.size w W1) :
    FaultW w W1 (((((((W1.setCell ⟨w.heap.size, 0, none⟩ (.string ⟨#[]⟩)).setCell ⟨w.heap.size, 1, none⟩ (.int .i64 0)).setCell ⟨w.heap.size, 2, none⟩ (.int .i64 0)).setCell ⟨w.heap.size, 3, none⟩ (.int .i64 0)).setCell ⟨w.heap.size, 4, none⟩ (.slice none 0 0)).setCell ⟨w.heap.size + 1, 0, none⟩ (.int .i64 q)).setCell ⟨w.heap.size + 1, 1, none⟩ (.int .i64 n)) q n := by
  obtain ⟨h1, h2, h3, h4⟩ := FaultW.manA hm hf hb
  obtain ⟨k1, k2, k3, k4⟩ := FaultW.fltA (q := q) (n := n) h1 h2 h3
  exact ⟨k1, k2, k3, h4.trans k4⟩
theorem faultB {w W1 : World} {q n : Int} (hm : Blk W1 w.heap.size 28 manZ) (hf : Blk W1 (w.heap.size + 1) 38 #[.int .i64 0, .int .i64 0]) (hb : Below w.heap.size w W1) :
    FaultW w W1 (((((((W1.setCell ⟨w.heap.size + 1, 0, none⟩ (.int .i64 q)).setCell ⟨w.heap.size + 1, 1, none⟩ (.int .i64 n)).setCell ⟨w.heap.size, 0, none⟩ (.string ⟨#[]⟩)).setCell ⟨w.heap.size, 1, none⟩ (.int .i64 0)).setCell ⟨w.heap.size, 2, none⟩ (.int .i64 0)).setCell ⟨w.heap.size, 3, none⟩ (.int .i64 0)).setCell ⟨w.heap.size, 4, none⟩ (.slice none 0 0)) q n := by
  obtain ⟨h1, h2, h3, h4⟩ := FaultW.fltA (q := q) (n := n) hm hf hb
  obtain ⟨k1, k2, k3, k4⟩ := FaultW.manA h1 h2 h3
  exact ⟨k1, k2, k3, h4.trans k4⟩
/-- what is read of the own cells -/
theorem own_cells {w X : World} {n : Int} (hm : Blk X w.heap.size 28 manZ) (hf : Blk X (w.heap.size + 1) 38 #[.int .i64 0, .int .i64 0]) (ha : Blk X (w.heap.size + 1 + 1 + 1) 3 #[.int .i64 n]) :
    (X.cell? ⟨w.heap.size, 0, none⟩ = some (.string ⟨#[]⟩) ∧ X.cell? ⟨w.heap.size, 1, none⟩ = some (.int .i64 0) ∧ X.cell? ⟨w.heap.size, 2, none⟩ = some (.int .i64 0) ∧ X.cell? ⟨w.heap.size, 3, none⟩ = some (.int .i64 0) ∧ X.cell? ⟨w.heap.size, 4, none⟩ = some (.slice none 0 0)) ∧
    (X.frozen? ⟨w.heap.size, 0, none⟩ = false ∧ X.frozen? ⟨w.heap.size, 1, none⟩ = false ∧ X.frozen? ⟨w.heap.size, 2, none⟩ = false ∧ X.frozen? ⟨w.heap.size, 3, none⟩ = false ∧ X.frozen? ⟨w.heap.size, 4, none⟩ = false) ∧
    (X.cell? ⟨w.heap.size + 1, 0, none⟩ = some (.int .i64 0) ∧ X.cell? ⟨w.heap.size + 1, 1, none⟩ = some (.int .i64 0)) ∧ (X.frozen? ⟨w.heap.size + 1, 0, none⟩ = false ∧ X.frozen? ⟨w.heap.size + 1, 1, none⟩ = false) ∧ X.cell? ⟨w.heap.size + 1 + 1 + 1, 0, none⟩ = some (.int .i64 n) :=
  ⟨⟨hm.cell 0, hm.cell 1, hm.cell 2, hm.cell 3, hm.cell 4⟩, ⟨hm.free 0, hm.free 1, hm.free 2, hm.free 3, hm.free 4⟩, ⟨hf.cell 0, hf.cell 1⟩, ⟨hf.free 0, hf.free 1⟩, ha.cell 0⟩
theorem keeps_below {A W : World} (hb : Below A.heap.size A W) : KeepsOthers A W := KeepsOthers.of_grownBy (grown_of_below hb none) (fun _ _ e => by cases e)
theorem stepL_some {L : List Mod} {a p t : List UInt8} (ha : a = firstW L) (hp : pathOk p = true) : stepL L [a, p, t] = (vparse t).map fun x => L ++ [(p, x)] := by
  unfold stepL
  rw [if_neg (by simp), wordM_three, if_pos ⟨ha, hp⟩]
  cases vparse t <;> rfl
theorem stepL_first {L : List Mod} {a p t : List UInt8} (ha : a ≠ firstW L) : stepL L [a, p, t] = none := by
  unfold stepL
  rw [if_neg (by simp), wordM_three, if_neg (fun h => ha h.1)]
  rfl
theorem stepL_path {L : List Mod} {a p t : List UInt8} (hp : pathOk p = false) : stepL L [a, p, t] = none := by
  unfold stepL
  rw [if_neg (by simp), wordM_three, if_neg (fun h => by rw [hp] at h; cases h.2)]
  rfl
theorem fault_end {w W W1 X : World} {pre : List Wd} {x : Wd} {L : List Mod} (hk : KeepsOthers W W1) (h1 : colL (some []) (wds pre) = some L) (hx : stepL L x.2.2 = none) (h : FaultW w W1 X 8 ((pre.length : Int) + 1)) : KeepsOthers W X ∧ PIx w .ret (pre ++ [x]) X :=
  ⟨hk.trans h.2.2.2, pix_next h1 hx h.1 h.2.1 h.2.2.1⟩
theorem rdw_put (B : Nat) (x : Wd) (W : World) (l : Nat) (o o' : Obj) (hl : W.heap[l]? = some o) (hc : o.isCells = false) (h : RdW B x W) : RdW B x (W.putObj l o') := by
  obtain ⟨h1, h2, h3⟩ := h
  refine ⟨?_, h2, h3⟩
  rcases h1 with h1 | ⟨b, off, e, hb, hcs⟩
  · exact .inl h1
  · exact .inr ⟨b, off, e, by simpa [World.putObj] using hb, fun i hi j v hv => cell_kept (hcs i hi j v hv) (grownBy_putObj' W l o') (fun r e => by cases e; exact ⟨o, hl, hc⟩)⟩

theorem ko_app {Z Y : World} {base e size k : Nat} {v : Value} {xs : List Value} {tmp : Obj} (hrow : Z.ownsRow base e size v k xs) (hg : ((Z.alloc tmp).drew).grownBy Y v.ownBlock) : KeepsOthers Z Y := by
  refine ((KeepsOthers.alloc Z tmp).trans (KeepsOthers.drew _)).trans (KeepsOthers.of_grownBy hg fun j o ej hj => ?_)
  rcases (hrow.alloc tmp).2 with ⟨rfl, _⟩ | ⟨g, cap, cur, rfl, _, hgb, _⟩
  · simp [Value.ownBlock] at ej
  · obtain rfl : g = j := by simpa [Value.ownBlock] using ej
    have hj' : (Z.alloc tmp).heap[g]? = some o := hj
    rw [hgb] at hj'; cases hj'; rfl
theorem blk_app {Z Y : World} {base e size k b : Nat} {t : TypeId} {cs : Array Value} {v : Value} {xs : List Value} {tmp : Obj} (hrow : Z.ownsRow base e size v k xs) (hg : ((Z.alloc tmp).drew).grownBy Y v.ownBlock) (h : Blk Z b t cs) (hb : b < base) : Blk Y b t cs :=
  (hg.block b (by have := h.lt; show b < (Z.alloc tmp).heap.size; simp; omega) (fun e => own_apart hrow hb e.symm)).trans (h.keep (((Below.refl _ _).alloc (Nat.le_refl _) tmp).drew))
theorem kpl_below {n0 Bs : Nat} {A B : World} (hb : Below A.heap.size A B) (hB : Bs < A.heap.size) (hn : n0 ≤ A.heap.size) : KpL n0 Bs A B :=
  ⟨hb.cell (p := ⟨Bs, 0, none⟩) hB, hb.frozen (show (⟨Bs, 0, none⟩ : Addr).block < _ from hB), hb.mono hn⟩
theorem kpl_set {n0 Bs : Nat} (A : World) (p : Addr) (u : Value) (hne : Bs ≠ p.block) (hn : n0 ≤ p.block) : KpL n0 Bs A (A.setCell p u) :=
  ⟨World.cell?_of_block (Below.heap_setCell A p u Bs hne), World.frozen?_of_block (Below.heap_setCell A p u Bs hne), (Below.refl n0 A).setCell hn u⟩
theorem kpl_app {n0 Bs : Nat} {Z Y : World} {base e size k : Nat} {v : Value} {xs : List Value} {tmp : Obj} (hrow : Z.ownsRow base e size v k xs) (hg : ((Z.alloc tmp).drew).grownBy Y v.ownBlock) (hB : Bs < base) (hz : base ≤ Z.heap.size) (hn : n0 ≤ base) : KpL n0 Bs Z Y := by
  have h1 : Below Z.heap.size Z ((Z.alloc tmp).drew) := ((Below.refl _ _).alloc (Nat.le_refl _) tmp).drew
  refine kpl_trans (kpl_below h1 (by omega) (by omega)) ?_
  have hb : Y.heap[Bs]? = ((Z.alloc tmp).drew).heap[Bs]? := hg.block Bs (by show Bs < (Z.alloc tmp).heap.size; simp; omega) (fun e => own_apart hrow hB e.symm)
  exact ⟨World.cell?_of_block hb, World.frozen?_of_block hb, (Below.refl n0 _).grown hg (by show n0 ≤ (Z.alloc tmp).heap.size; simp; omega) (fun q e => by have := (hrow.lt q e).1; omega)⟩
theorem round_add {w W Z Y : World} {pre : List Wd} {x : Wd} {L : List Mod} {m : Mod} {v v' : Value} (hc : colL (some []) (wds pre) = some L) (hst : stepL L x.2.2 = some (L ++ [m])) (hKO : KeepsOthers W Z) (hKP : KpL w.heap.size (w.heap.size + 1 + 1 + 1 + 1) W Z)
    (hl : Blk Z (w.heap.size + 1 + 1) 26 #[v]) (hown : Z.ownsRow (w.heap.size + 5) 25 4 v L.length (L.flatMap encM)) (ha : Blk Z (w.heap.size + 1 + 1 + 1) 3 #[.int .i64 ((pre.length : Int) + 1)])
    (hm : Blk Z w.heap.size 28 manZ) (hf : Blk Z (w.heap.size + 1) 38 #[.int .i64 0, .int .i64 0]) (hb : Below w.heap.size w Z) (hz : w.heap.size + 5 ≤ Z.heap.size) (hA : App17 Z (w.heap.size + 5) v L.length (L.flatMap encM) m v' Y) :
    KeepsOthers W (Y.setCell ⟨w.heap.size + 1 + 1, 0, none⟩ v') ∧ KpL w.heap.size (w.heap.size + 1 + 1 + 1 + 1) W (Y.setCell ⟨w.heap.size + 1 + 1, 0, none⟩ v') ∧ PInv w (pre ++ [x]) (Y.setCell ⟨w.heap.size + 1 + 1, 0, none⟩ v') := by
  obtain ⟨r1, r2⟩ := hA
  have hbY := (kpl_app (n0 := w.heap.size) (Bs := w.heap.size) hown r2 (by omega) hz (by omega)).2.2
  refine ⟨(hKO.trans (ko_app hown r2)).trans (KeepsOthers.setCell _ _ _), kpl_trans (kpl_trans hKP (kpl_app hown r2 (by omega) hz (by omega))) (kpl_set _ _ _ (by show w.heap.size + 1 + 1 + 1 + 1 ≠ w.heap.size + 1 + 1; omega) (by show w.heap.size ≤ w.heap.size + 1 + 1; omega)), ?_⟩
  have r3 := r1.kept (grownBy_setCell' Y (w.heap.size + 1 + 1) v') (.inr (own_apart r1 (by omega)))
  refine pinv_next (L := L ++ [m]) (v := v') (by rw [wds_snoc, colL_snoc, hc]; exact hst) ((blk_app hown r2 hl (by omega)).set_ 0 v') (by rw [List.flatMap_append, List.flatMap_singleton, List.length_append]; exact r3)
    ((blk_app hown r2 ha (by omega)).far (by show w.heap.size + 1 + 1 + 1 ≠ w.heap.size + 1 + 1; omega) _) ((blk_app hown r2 hm (by omega)).far (by show w.heap.size ≠ w.heap.size + 1 + 1; omega) _) ((blk_app hown r2 hf (by omega)).far (by show w.heap.size + 1 ≠ w.heap.size + 1 + 1; omega) _)
    ((hb.trans hbY).setCell (p := ⟨w.heap.size + 1 + 1, 0, none⟩) (by show w.heap.size ≤ w.heap.size + 1 + 1; omega) _)

theorem fault_cells {w W X : World} {q n : Int} {D : Nat} (h : FaultW w W X q n) (hD : w.heap.size + 5 ≤ D) (hK : W.heap[D]? = some (.deferred (some []))) :
    X.heap[D]? = some (.deferred (some [])) ∧ ((X.putObj D (.deferred none)).cell? ⟨w.heap.size, 0, none⟩ = some (.string ⟨#[]⟩) ∧ (X.putObj D (.deferred none)).cell? ⟨w.heap.size, 1, none⟩ = some (.int .i64 0) ∧ (X.putObj D (.deferred none)).cell? ⟨w.heap.size, 2, none⟩ = some (.int .i64 0) ∧ (X.putObj D (.deferred none)).cell? ⟨w.heap.size, 3, none⟩ = some (.int .i64 0) ∧ (X.putObj D (.deferred none)).cell? ⟨w.heap.size, 4, none⟩ = some (.slice none 0 0)) ∧
      ((X.putObj D (.deferred none)).cell? ⟨w.heap.size + 1, 0, none⟩ = some (.int .i64 q) ∧ (X.putObj D (.deferred none)).cell? ⟨w.heap.size + 1, 1, none⟩ = some (.int .i64 n)) ∧ Below w.heap.size w (X.putObj D (.deferred none)) := by
  obtain ⟨h5, h6, h7, h8⟩ := h
  have hK' := h8.same D _ hK rfl
  have k5 : Blk (X.putObj D (.deferred none)) w.heap.size 28 manZ := (World.putObj_heap_other (by omega)).trans h5
  have k6 : Blk (X.putObj D (.deferred none)) (w.heap.size + 1) 38 #[.int .i64 q, .int .i64 n] := (World.putObj_heap_other (by omega)).trans h6
  exact ⟨hK', ⟨k5.cell 0, k5.cell 1, k5.cell 2, k5.cell 3, k5.cell 4⟩, ⟨k6.cell 0, k6.cell 1⟩, h7.trans (belowK_b (w := w) (Nat.le_refl _) X D _ _ (by omega) hK' rfl rfl)⟩

theorem sl_put {α : Type} {W : World} {k l : Nat} {enc : α → List Value} {A : Option Addr} {L : List α} {o : Obj} (o' : Obj) (hl : W.heap[l]? = some o) (hc : o.isCells = false) (h : Sl W W.heap.size k enc A L) : Sl (W.putObj l o') (W.putObj l o').heap.size k enc A L := by
  rcases h with h | ⟨b, off, e, hb, hcs⟩
  · exact .inl h
  · exact .inr ⟨b, off, e, by simpa [World.putObj] using hb, fun i hi j v hv => cell_kept (hcs i hi j v hv) (grownBy_putObj' W l o') (fun r e => by cases e; exact ⟨o, hl, hc⟩)⟩
theorem ok_cells {w w2 : World} {m : Mod} {A : Option Addr} {n c D : Nat} {l : List Mod} (hm : Blk w2 w.heap.size 28 manZ) (hf : Blk w2 (w.heap.size + 1) 38 #[.int .i64 0, .int .i64 0]) (hb : Below w.heap.size w w2) (hD : w.heap.size + 5 ≤ D) (hK : w2.heap[D]? = some (.deferred (some [])))
    (hS : Sl w2 w2.heap.size 4 encM A l) (hfar : l = [] ∨ ∀ a, A = some a → w.heap.size + 5 ≤ a.block) {X : World} (hX : X = (((((((w2.setCell ⟨w.heap.size, 0, none⟩ (.string ⟨m.1.toArray⟩)).setCell ⟨w.heap.size, 1, none⟩ (.int .i64 m.2.1)).setCell ⟨w.heap.size, 2, none⟩ (.int .i64 m.2.2.1)).setCell ⟨w.heap.size, 3, none⟩ (.int .i64 m.2.2.2)).setCell ⟨w.heap.size, 4, none⟩ (.slice A n c)).setCell ⟨w.heap.size + 1, 0, none⟩ (.int .i64 0)).setCell ⟨w.heap.size + 1, 1, none⟩ (.int .i64 0))) :
    X.heap[D]? = some (.deferred (some [])) ∧ ((X.putObj D (.deferred none)).cell? ⟨w.heap.size, 0, none⟩ = some (.string ⟨m.1.toArray⟩) ∧ (X.putObj D (.deferred none)).cell? ⟨w.heap.size, 1, none⟩ = some (.int .i64 m.2.1) ∧ (X.putObj D (.deferred none)).cell? ⟨w.heap.size, 2, none⟩ = some (.int .i64 m.2.2.1) ∧ (X.putObj D (.deferred none)).cell? ⟨w.heap.size, 3, none⟩ = some (.int .i64 m.2.2.2) ∧ (X.putObj D (.deferred none)).cell? ⟨w.heap.size, 4, none⟩ = some (.slice A n c)) ∧
      ((X.putObj D (.deferred none)).cell? ⟨w.heap.size + 1, 0, none⟩ = some (.int .i64 0) ∧ (X.putObj D (.deferred none)).cell? ⟨w.heap.size + 1, 1, none⟩ = some (.int .i64 0)) ∧ Sl (X.putObj D (.deferred none)) (X.putObj D (.deferred none)).heap.size 4 encM A l ∧ Below w.heap.size w (X.putObj D (.deferred none)) := by
  have ne : w.heap.size ≠ w.heap.size + 1 := by omega
  have ne' : w.heap.size + 1 ≠ w.heap.size := by omega
  have q5 : Blk X w.heap.size 28 #[.string ⟨m.1.toArray⟩, .int .i64 m.2.1, .int .i64 m.2.2.1, .int .i64 m.2.2.2, .slice A n c] := by
    rw [hX]; exact (((((((hm.set_ 0 _).set_ 1 _).set_ 2 _).set_ 3 _).set_ 4 _).far ne _).far ne _)
  have q6 : Blk X (w.heap.size + 1) 38 #[.int .i64 0, .int .i64 0] := by
    rw [hX]; exact (((((((hf.far ne' _).far ne' _).far ne' _).far ne' _).far ne' _).set_ 0 _).set_ 1 _)
  have hKO : KeepsOthers w2 X := by
    rw [hX]; exact ((((((KeepsOthers.setCell _ _ _).trans (KeepsOthers.setCell _ _ _)).trans (KeepsOthers.setCell _ _ _)).trans (KeepsOthers.setCell _ _ _)).trans (KeepsOthers.setCell _ _ _)).trans (KeepsOthers.setCell _ _ _)).trans (KeepsOthers.setCell _ _ _)
  have hB : Below w.heap.size w X := by
    rw [hX]; exact ((((((hb.setCell (Nat.le_refl _) _).setCell (Nat.le_refl _) _).setCell (Nat.le_refl _) _).setCell (Nat.le_refl _) _).setCell (Nat.le_refl _) _).setCell (Nat.le_succ _) _).setCell (Nat.le_succ _) _
  have n0 : l = [] ∨ ∀ a, A = some a → a.block ≠ w.heap.size := by
    rcases hfar with h | h
    · exact .inl h
    · exact .inr fun a ha => by have := h a ha; omega
  have n1 : l = [] ∨ ∀ a, A = some a → a.block ≠ w.heap.size + 1 := by
    rcases hfar with h | h
    · exact .inl h
    · exact .inr fun a ha => by have := h a ha; omega
  have hSX : Sl X X.heap.size 4 encM A l := by
    have hszz : ∀ (X : World) p u, (X.setCell p u).heap.size = X.heap.size := fun X p u => by simp [World.setCell]
    rw [hX]
    simp only [hszz]
    exact ((((((hS.setCell _ _ n0).setCell _ _ n0).setCell _ _ n0).setCell _ _ n0).setCell _ _ n0).setCell _ _ n1).setCell _ _ n1
  have hK' := hKO.same D _ hK rfl
  have k5 : Blk (X.putObj D (.deferred none)) w.heap.size 28 #[.string ⟨m.1.toArray⟩, .int .i64 m.2.1, .int .i64 m.2.2.1, .int .i64 m.2.2.2, .slice A n c] := (World.putObj_heap_other (by omega)).trans q5
  have k6 : Blk (X.putObj D (.deferred none)) (w.heap.size + 1) 38 #[.int .i64 0, .int .i64 0] := (World.putObj_heap_other (by omega)).trans q6
  exact ⟨hK', ⟨k5.cell 0, k5.cell 1, k5.cell 2, k5.cell 3, k5.cell 4⟩, ⟨k6.cell 0, k6.cell 1⟩, sl_put _ hK' rfl hSX, hB.trans (belowK_b (w := w) (Nat.le_refl _) X D _ _ (by omega) hK' rfl rfl)⟩

set_option maxRecDepth 100000 in
set_option maxHeartbeats 4000000 in
theorem Parse_in (s : List UInt8) (hs : s.length ≤ 65536) (w : World) (hG : Glob w) :
    CallsIn Fence.wide 3 Tryz.prog 20 #[.string ⟨s.toArray⟩] w (RetMan w (mparse s)) := by
  have d1 : decide ((65536 : Int) < (s.length : Int)) = false := decide_eq_false (by omega)
  have HG := Lib.hid hG
  clear hG
  refine callsIn_of_wp_marks Tryz.func20 rfl trivial ?_ rfl
  simp only [Tryz.ntmps20, List.size_toArray, List.length_cons, List.length_nil, Nat.reduceAdd, Nat.reduceSub, Array.replicate_succ, Array.replicate_zero, List.push_toArray, List.append_toArray, List.nil_append, List.cons_append]
  gi_wp2_with (refine ⟨trivial, ?_⟩; gi_at_call 44; refine (callsIn_wide.2 (lines_any s _)).mono ?_; rintro e w' ⟨rfl, rfl⟩)
  have q0 := Blk.new w 28 manZ
  have hB1 : Below w.heap.size w (w.alloc (.cells manZ 28)) := (Below.refl _ _).alloc (Nat.le_refl _) _
  have hz1 : (w.alloc (.cells manZ 28)).heap.size = w.heap.size + 1 := by simp
  change Code.wpIn _ _ _ _ _ _ (((((w.alloc (.cells manZ 28)).alloc _).alloc _).alloc _).alloc _)
  generalize w.alloc (.cells manZ 28) = A1 at q0 hB1 hz1 ⊢
  have q1 := Blk.new A1 38 #[.int .i64 0, .int .i64 0]
  rw [hz1] at q1
  have hb2 : Below A1.heap.size A1 (A1.alloc (.cells #[.int .i64 0, .int .i64 0] 38)) := (Below.refl _ _).alloc (Nat.le_refl _) _
  have hz2 : (A1.alloc (.cells #[.int .i64 0, .int .i64 0] 38)).heap.size = w.heap.size + 1 + 1 := by simp [hz1]
  generalize A1.alloc (.cells #[.int .i64 0, .int .i64 0] 38) = A2 at q1 hb2 hz2 ⊢
  have q2 := Blk.new A2 26 #[.slice none 0 0]
  rw [hz2] at q2
  have hb3 : Below A2.heap.size A2 (A2.alloc (.cells #[.slice none 0 0] 26)) := (Below.refl _ _).alloc (Nat.le_refl _) _
  have hz3 : (A2.alloc (.cells #[.slice none 0 0] 26)).heap.size = w.heap.size + 1 + 1 + 1 := by simp [hz2]
  generalize A2.alloc (.cells #[.slice none 0 0] 26) = A3 at q2 hb3 hz3 ⊢
  have q3 := Blk.new A3 3 #[.int .i64 0]
  rw [hz3] at q3
  have hb4 : Below A3.heap.size A3 (A3.alloc (.cells #[.int .i64 0] 3)) := (Below.refl _ _).alloc (Nat.le_refl _) _
  have hz4 : (A3.alloc (.cells #[.int .i64 0] 3)).heap.size = w.heap.size + 1 + 1 + 1 + 1 := by simp [hz3]
  generalize A3.alloc (.cells #[.int .i64 0] 3) = A4 at q3 hb4 hz4 ⊢
  have q4 := Blk.new A4 9 #[.string ⟨s.toArray⟩]
  rw [hz4] at q4
  have hb5 : Below A4.heap.size A4 (A4.alloc (.cells #[.string ⟨s.toArray⟩] 9)) := (Below.refl _ _).alloc (Nat.le_refl _) _
  have hz5 : (A4.alloc (.cells #[.string ⟨s.toArray⟩] 9)).heap.size = w.heap.size + 1 + 1 + 1 + 1 + 1 := by simp [hz4]
  generalize A4.alloc (.cells #[.string ⟨s.toArray⟩] 9) = W0 at q4 hb5 hz5 ⊢
  have p0 := (((q0.keep hb2).keep hb3).keep hb4).keep hb5
  have p1 := ((q1.keep hb3).keep hb4).keep hb5
  have p2 := (q2.keep hb4).keep hb5
  have p3 := q3.keep hb5
  have hB0 : Below w.heap.size w W0 := hB1.trans ((hb2.trans ((hb3.trans ((hb4.trans (hb5.mono (by omega))).mono (by omega))).mono (by omega))).mono (by omega))
  clear q0 q1 q2 q3 hB1 hb2 hb3 hb4 hb5 hz1 hz2 hz3 hz4
  have HB0 := Lib.hid hB0
  have hstops : SeqCell Fence.wide 2 Tryz.prog 61 #[.pointer (some ⟨w.heap.size + 1 + 1 + 1 + 1, 0, none⟩)] encW (RdW (w.heap.size + 1 + 1 + 1 + 1 + 1)) (KpL w.heap.size (w.heap.size + 1 + 1 + 1 + 1)) (w.heap.size + 1 + 1 + 1 + 1) (fun xs => wds xs = allW s) (fun pre => ∃ r, allW s = wds pre ++ r) (s.length + 1) W0 :=
    fun l J Jx W hW hJ _ hJs hY h0 => lines1_in 2 (by decide) l (w.heap.size + 1 + 1 + 1 + 1) w.heap.size s hs J Jx W hJ hJs hY (by omega) (by have := hW.size; omega) ((q4.keep hW).cell 0) ((q4.keep hW).free 0)
      (fun W' hW' => HG.out.keep (HB0.out.trans ((hW.mono (by omega)).trans hW'))) h0
  refine wpIn_range_cell rfl (by decide) (gf := 61) (lb := #[.pointer (some ⟨w.heap.size + 1 + 1 + 1 + 1, 0, none⟩)]) rfl trivial (enters_of Tryz.func61 (by kernel_rfl) rfl) hstops (by omega) kpl_trans (kpl_put (by omega) (by omega) (by omega)) (fun x W l o o' => rdw_put _ x W l o o') (fun _ => rfl)
    (PInv w) (PIx w) (pinv_own w _ (by omega)) (fun c => pix_own w _ (by omega) c) (pinv_set w) ⟨rfl, ⟨_, p2, World.ownsRow_nil _ _ _ _⟩, p3, p0, p1, hB0⟩
    (fun x => { tmps := #[.string ⟨s.toArray⟩, undef, .pointer (some ⟨w.heap.size, 0, none⟩), .pointer (some ⟨w.heap.size + 1, 0, none⟩), .pointer (some ⟨w.heap.size + 1 + 1, 0, none⟩), .pointer (some ⟨w.heap.size + 1 + 1 + 1, 0, none⟩), .slice x.1 x.2.2.length x.2.1, undef, undef, undef, undef, undef, .string ⟨s.toArray⟩, .int .i64 (s.length : Nat), .bool false, undef, undef, .string ⟨s.toArray⟩, .func (.func 61) #[] #[.pointer (some ⟨w.heap.size + 1 + 1 + 1 + 1, 0, none⟩)], .slice x.1 x.2.2.length x.2.1, undef, undef, undef, undef, undef, undef, undef, undef, undef, undef, undef, undef, undef, undef, undef, undef, undef, undef, undef, undef, undef, undef, undef, undef, undef, undef, undef, undef, undef, undef, undef, undef, undef, undef, undef, undef, undef, undef, undef, undef, undef, undef, undef, undef, undef, undef, undef, undef, undef, undef, undef, undef, undef, undef, undef, undef, undef, undef, undef, undef, undef, undef, undef, undef, undef, undef, undef, undef, undef, undef, undef], defers := [] }) ?assign ?body ?done ?stop
  case assign =>
    intro l x W K hK
    simp only [encW]
    gi_wp2
    exact hK
  case body =>
    rintro lp pre ⟨A, c, ws⟩ W ⟨h1, ⟨v, h2, h3⟩, h4, h5, h6, h7⟩ ⟨hr1, hr2, hr3, hr4⟩ hlt
    simp only at hr1 hr2 hr3 hr4
    have HWS := Lib.hid (wds_snoc pre (A, c, ws))
    have HC := Lib.hid (show ∀ L, colL (some []) (wds pre) = some L → colL (some []) (wds pre ++ [ws]) = stepL L ws from fun L h => by rw [colL_snoc, h]; rfl)
    have hLp : (lstOf pre).length ≤ 65536 := by have := colL_len _ _ _ h1; simp [wds] at this; omega
    have H1 := Lib.hid h1
    generalize lstOf pre = L at H1 h3 hLp
    obtain ⟨A4, c4, rfl⟩ := Acc.shape (.inl h3)
    have cA := h4.cell 0
    have fA := h4.free 0
    have cL := h2.cell 0
    have fL := h2.free 0
    simp at cA cL
    have KA := Lib.hid h4
    have KL := Lib.hid h2
    have KM := Lib.hid h5
    have KF := Lib.hid h6
    have KAt := Lib.hid h4
    have KB := Lib.hid h7
    have KO := Lib.hid h3
    clear h1 h2 h3 h4 h5 h6 h7
    by_cases hw0 : ws = []
    · subst hw0
      have HS := Lib.hid (HC.out L H1.out)
      gi_wp2
      refine ⟨KeepsOthers.setCell _ _ _, ⟨World.cell?_of_block (Below.heap_setCell W ⟨w.heap.size + 1 + 1 + 1, 0, none⟩ _ (w.heap.size + 1 + 1 + 1 + 1) (by show w.heap.size + 1 + 1 + 1 + 1 ≠ w.heap.size + 1 + 1 + 1; omega)), World.frozen?_of_block (Below.heap_setCell W ⟨w.heap.size + 1 + 1 + 1, 0, none⟩ _ (w.heap.size + 1 + 1 + 1 + 1) (by show w.heap.size + 1 + 1 + 1 + 1 ≠ w.heap.size + 1 + 1 + 1; omega)), (Below.refl w.heap.size W).setCell (p := ⟨w.heap.size + 1 + 1 + 1, 0, none⟩) (by show w.heap.size ≤ w.heap.size + 1 + 1 + 1; omega) _⟩, ?_⟩
      exact pinv_next (by rw [HWS.out, HS.out]; rfl) (KL.out.far (by show w.heap.size + 1 + 1 ≠ w.heap.size + 1 + 1 + 1; omega) _) (KO.out.kept (grownBy_setCell' W _ _) (.inr (own_apart KO.out (by omega)))) (KA.out.set_ 0 _) (KM.out.far (by show w.heap.size ≠ w.heap.size + 1 + 1 + 1; omega) _) (KF.out.far (by show w.heap.size + 1 ≠ w.heap.size + 1 + 1 + 1; omega) _) (KB.out.setCell (p := ⟨w.heap.size + 1 + 1 + 1, 0, none⟩) (by show w.heap.size ≤ w.heap.size + 1 + 1 + 1; omega) _)
    · have hwl : (0 : Int) < (ws.length : Int) := by have := List.length_pos_iff.2 hw0; omega
      have hsl1 := hr1.setCell ⟨w.heap.size + 1 + 1 + 1, 0, none⟩ (.int .i64 ((pre.length : Int) + 1)) (.inr fun a ha => by have := hr4 a ha; show a.block ≠ w.heap.size + 1 + 1 + 1; omega)
      have HR3 := Lib.hid hr3
      have HSL := Lib.hid hsl1
      have HR1 := Lib.hid hr1
      have HR4 := Lib.hid hr4
      have KA1 := Lib.hid (show Blk (W.setCell ⟨w.heap.size + 1 + 1 + 1, 0, none⟩ (.int .i64 ((pre.length : Int) + 1))) (w.heap.size + 1 + 1 + 1) 3 #[.int .i64 ((pre.length : Int) + 1)] from KA.out.set_ 0 _)
      have KL1 := Lib.hid (KL.out.far (p := ⟨w.heap.size + 1 + 1 + 1, 0, none⟩) (by show w.heap.size + 1 + 1 ≠ w.heap.size + 1 + 1 + 1; omega) (.int .i64 ((pre.length : Int) + 1)))
      have HGW := Lib.hid (fun X (hX : Below w.heap.size w X) => HG.out.keep hX)
      have hwz := KB.out.size
      clear hr1 hr3 hr4 hsl1
      have KM1 := Lib.hid (KM.out.far (p := ⟨w.heap.size + 1 + 1 + 1, 0, none⟩) (by show w.heap.size ≠ w.heap.size + 1 + 1 + 1; omega) (.int .i64 ((pre.length : Int) + 1)))
      have KF1 := Lib.hid (KF.out.far (p := ⟨w.heap.size + 1 + 1 + 1, 0, none⟩) (by show w.heap.size + 1 ≠ w.heap.size + 1 + 1 + 1; omega) (.int .i64 ((pre.length : Int) + 1)))
      have KB1 := Lib.hid (KB.out.setCell (p := ⟨w.heap.size + 1 + 1 + 1, 0, none⟩) (by show w.heap.size ≤ w.heap.size + 1 + 1 + 1; omega) (.int .i64 ((pre.length : Int) + 1)))
      have m0 := KM.out.cell 0
      have m1 := KM.out.cell 1
      have m2 := KM.out.cell 2
      have m3 := KM.out.cell 3
      have m4 := KM.out.cell 4
      have fm0 := KM.out.free 0
      have fm1 := KM.out.free 1
      have fm2 := KM.out.free 2
      have fm3 := KM.out.free 3
      have fm4 := KM.out.free 4
      have e0 := KF.out.cell 0
      have e1 := KF.out.cell 1
      have fe0 := KF.out.free 0
      have fe1 := KF.out.free 1
      simp [manZ] at m0 m1 m2 m3 m4 e0 e1
      by_cases hL : L = []
      · subst hL
        by_cases h3 : ws.length = 3
        · obtain ⟨a, p, t, rfl⟩ : ∃ a p t, ws = [a, p, t] := by
            match ws, h3 with
            | [a, p, t], _ => exact ⟨a, p, t, rfl⟩
          clear h3 hw0 hwl HC
          have HA : ∃ b off, A = some ⟨b, off, none⟩ ∧ W.cell? ⟨b, off, none⟩ = some (.string ⟨a.toArray⟩) ∧ W.cell? ⟨b, off + 1, none⟩ = some (.string ⟨p.toArray⟩) ∧ W.cell? ⟨b, off + 2, none⟩ = some (.string ⟨t.toArray⟩) := by
            rcases HR1.out with h | ⟨b, off, h, _, hc⟩
            · cases h
            · exact ⟨b, off, h, hc 0 (by simp) 0 _ rfl, hc 1 (by simp) 0 _ rfl, hc 2 (by simp) 0 _ rfl⟩
          obtain ⟨b, off, rfl, g0, g1, g2⟩ := HA
          have hbb : w.heap.size + 1 + 1 + 1 + 1 + 1 ≤ b := HR4.out _ rfl
          have hpl : p.length ≤ 65536 := HR3.out p (by simp)
          have htl : t.length ≤ 65536 := HR3.out t (by simp)
          clear HR1 HR3 HR4 HSL hr2
          by_cases ha : a = [109, 111, 100, 117, 108, 101]
          · subst ha
            have cP := Lib.hid (fun X (hX : Glob X) => Path_any p X (by unfold maxLen; omega) hX)
            cases hp : pathOk p
            · have HX := Lib.hid (stepL_path (L := []) (a := [109, 111, 100, 117, 108, 101]) (t := t) hp)
              rw [hp] at cP
              gi_wp2_with (refine ⟨trivial, ?_⟩; gi_at_call 16; refine (CallsIn.inRound lp (callsIn_wide.2 (cP.out _ (HGW.out _ KB1.out)))).mono ?_; rintro e w2 ⟨rfl, hb2⟩; obtain ⟨⟨x0, x1, x2, x3, x4⟩, ⟨y0, y1, y2, y3, y4⟩, ⟨z0, z1⟩, ⟨u0, u1⟩, v0⟩ := own_cells (KM1.out.keep hb2) (KF1.out.keep hb2) (KA1.out.keep hb2))
              have KM2 := Lib.hid (KM1.out.keep hb2)
              have KF2 := Lib.hid (KF1.out.keep hb2)
              have hz1 := KB1.out.size
              have KB2 := Lib.hid (KB1.out.trans (hb2.mono hz1))
              have KO2 := Lib.hid ((KeepsOthers.setCell W ⟨w.heap.size + 1 + 1 + 1, 0, none⟩ (.int .i64 ((pre.length : Int) + 1))).trans (keeps_below hb2))
              gi_region
              all_goals
                gi_wp2
                first
                  | exact fault_end KO2.out H1.out HX.out (FaultW.drew (faultA KM2.out KF2.out KB2.out))
                  | exact fault_end KO2.out H1.out HX.out (FaultW.drew (faultB KM2.out KF2.out KB2.out))
            · rw [hp] at cP
              have HXs := Lib.hid (stepL_some (L := []) (a := [109, 111, 100, 117, 108, 101]) (t := t) rfl hp)
              have g1s : (W.setCell ⟨w.heap.size + 1 + 1 + 1, 0, none⟩ (.int .i64 ((pre.length : Int) + 1))).cell? ⟨b, off + 1, none⟩ = some (.string ⟨p.toArray⟩) := (World.cell?_of_block (Below.heap_setCell W ⟨w.heap.size + 1 + 1 + 1, 0, none⟩ _ b (by show b ≠ w.heap.size + 1 + 1 + 1; omega))).trans g1
              have g2s : (W.setCell ⟨w.heap.size + 1 + 1 + 1, 0, none⟩ (.int .i64 ((pre.length : Int) + 1))).cell? ⟨b, off + 2, none⟩ = some (.string ⟨t.toArray⟩) := (World.cell?_of_block (Below.heap_setCell W ⟨w.heap.size + 1 + 1 + 1, 0, none⟩ _ b (by show b ≠ w.heap.size + 1 + 1 + 1; omega))).trans g2
              have hz1 := KB1.out.size
              cases hv : vparse t with
              | none =>
                have HX := Lib.hid (show stepL [] [[109, 111, 100, 117, 108, 101], p, t] = none by rw [HXs.out, hv]; rfl)
                have cV := Lib.hid (fun X hX => (vParse_any t X (by unfold maxLen; omega) hX).mono (R' := fun e w' => e = .returned (.tuple #[.agg #[.int .i64 0, .int .i64 0, .int .i64 0], .int .i64 8]) ∧ Below X.heap.size X w') (fun e w' h => by unfold RetVer vver verr at h; rw [hv] at h; exact h))
                gi_wp2_with (first
                  | (refine ⟨trivial, ?_⟩; gi_at_call 16; refine (CallsIn.inRound lp (callsIn_wide.2 (cP.out _ (HGW.out _ KB1.out)))).mono ?_; rintro e w2 ⟨rfl, hb2⟩; have KB2 := Lib.hid (KB1.out.trans (hb2.mono hz1)); have k2 := cell_keep hb2 g2s; have KM2 := Lib.hid (KM1.out.keep hb2); have KF2 := Lib.hid (KF1.out.keep hb2); have KA2 := Lib.hid (KA1.out.keep hb2); have KO2 := Lib.hid ((KeepsOthers.setCell W ⟨w.heap.size + 1 + 1 + 1, 0, none⟩ (.int .i64 ((pre.length : Int) + 1))).trans (keeps_below hb2)))
                  | (refine ⟨trivial, ?_⟩; gi_at_call 45; refine (CallsIn.inRound lp (callsIn_wide.2 (cV.out _ (HGW.out _ KB2.out)))).mono ?_; rintro e w3 ⟨rfl, hb3⟩; have hz2 := KB2.out.size; have HB3 := Lib.hid (hb3.alloc hb3.size (.cells #[.int .i64 0, .int .i64 0, .int .i64 0] 23)); obtain ⟨⟨x0, x1, x2, x3, x4⟩, ⟨y0, y1, y2, y3, y4⟩, ⟨z0, z1⟩, ⟨u0, u1⟩, v0⟩ := own_cells (KM2.out.keep HB3.out) (KF2.out.keep HB3.out) (KA2.out.keep HB3.out)))
                have KM3 := Lib.hid (KM2.out.keep HB3.out)
                have KF3 := Lib.hid (KF2.out.keep HB3.out)
                have KB3 := Lib.hid (KB2.out.trans (HB3.out.mono hz2))
                have KO3 := Lib.hid (KO2.out.trans (keeps_below HB3.out))
                gi_region
                all_goals
                  gi_wp2
                  first
                    | exact fault_end KO3.out H1.out HX.out (FaultW.drew (faultA KM3.out KF3.out KB3.out))
                    | exact fault_end KO3.out H1.out HX.out (FaultW.drew (faultB KM3.out KF3.out KB3.out))
              | some v =>
                obtain ⟨x, y, z⟩ := v
                have HX := Lib.hid (show stepL [] [[109, 111, 100, 117, 108, 101], p, t] = some ([] ++ [(p, x, y, z)]) by rw [HXs.out, hv]; rfl)
                have cV := Lib.hid (fun X hX => (vParse_any t X (by unfold maxLen; omega) hX).mono (R' := fun e w' => e = .returned (.tuple #[.agg #[.int .i64 x, .int .i64 y, .int .i64 z], .int .i64 0]) ∧ Below X.heap.size X w') (fun e w' h => by unfold RetVer vver verr at h; rw [hv] at h; exact h))
                gi_wp2_with (first
                  | (refine ⟨trivial, ?_⟩; gi_at_call 16; refine (CallsIn.inRound lp (callsIn_wide.2 (cP.out _ (HGW.out _ KB1.out)))).mono ?_; rintro e w2 ⟨rfl, hb2⟩; have KB2 := Lib.hid (KB1.out.trans (hb2.mono hz1)); have k2 := cell_keep hb2 g2s; have k1 := cell_keep hb2 g1s; have KM2 := Lib.hid (KM1.out.keep hb2); have KF2 := Lib.hid (KF1.out.keep hb2); have KA2 := Lib.hid (KA1.out.keep hb2); have KL2 := Lib.hid (KL1.out.keep hb2); have KO2 := Lib.hid ((KeepsOthers.setCell W ⟨w.heap.size + 1 + 1 + 1, 0, none⟩ (.int .i64 ((pre.length : Int) + 1))).trans (keeps_below hb2)); have HB2 := Lib.hid hb2)
                  | (refine ⟨trivial, ?_⟩; gi_at_call 45; refine (CallsIn.inRound lp (callsIn_wide.2 (cV.out _ (HGW.out _ KB2.out)))).mono ?_; rintro e w3 ⟨rfl, hb3⟩; have hz2 := KB2.out.size; have HB3 := Lib.hid hb3))
                have HZ := Lib.hid (HB3.out.alloc HB3.out.size (.cells #[.int .i64 x, .int .i64 y, .int .i64 z] 23))
                have k1z := cell_keep HZ.out k1
                have KLz := KL2.out.keep HZ.out
                have bz := Blk.new w3 23 #[.int .i64 x, .int .i64 y, .int .i64 z]
                have own1 := KO.out.kept (grownBy_setCell' W (w.heap.size + 1 + 1 + 1) (.int .i64 ((pre.length : Int) + 1))) (.inr (own_apart KO.out (by omega)))
                have ownz := own_below2 (own_below2 own1 HB2.out) HZ.out
                have hzz : w.heap.size + 5 ≤ (w3.alloc (.cells #[.int .i64 x, .int .i64 y, .int .i64 z] 23)).heap.size := by have h1 := HB2.out.size; have h2 := HB3.out.size; have h3 : b < (W.setCell ⟨w.heap.size + 1 + 1 + 1, 0, none⟩ (.int .i64 ((pre.length : Int) + 1))).heap.size := lt_of_cell g1s; simp; omega
                have hBs1 : w.heap.size + 1 + 1 + 1 + 1 < (W.setCell ⟨w.heap.size + 1 + 1 + 1, 0, none⟩ (.int .i64 ((pre.length : Int) + 1))).heap.size := by have h3 : b < (W.setCell ⟨w.heap.size + 1 + 1 + 1, 0, none⟩ (.int .i64 ((pre.length : Int) + 1))).heap.size := lt_of_cell g1s; omega
                refine region17 (l := lp) (by simp) rfl rfl (by kernel_rfl) ?dep (B2 := w.heap.size + 1 + 1) (B8 := w3.heap.size) (b := b) (off := off) (c := c) (base := w.heap.size + 5) (k := ([] : List Mod).length) (v := .slice A4 ([] : List Mod).length c4) (xs := ([] : List Mod).flatMap encM) (m := (p, x, y, z)) (by simp) rfl rfl rfl (KLz.cell 0) (KLz.free 0) (by omega) k1z (bz.cell 0) (bz.cell 1) (bz.cell 2) ownz (by first | omega | simp) hzz ⟨_, _, rfl⟩ ?hQ
                case dep =>
                  intro L' i j hij o ho h
                  simp only [deps17, List.mem_cons, Prod.mk.injEq, List.not_mem_nil, or_false] at hij
                  rcases hij with ⟨rfl, rfl⟩ | ⟨rfl, rfl⟩ | ⟨rfl, rfl⟩ | ⟨rfl, rfl⟩ | ⟨rfl, rfl⟩ | ⟨rfl, rfl⟩ | ⟨rfl, rfl⟩ | ⟨rfl, rfl⟩
                  all_goals
                    simp at ho
                    subst ho
                    simp [Region.binds] at h
                    simp [h]
                case hQ =>
                  rintro a' v' Y hA
                  exact round_add H1.out HX.out (KO2.out.trans (keeps_below HZ.out)) (kpl_trans (kpl_trans (kpl_set W ⟨w.heap.size + 1 + 1 + 1, 0, none⟩ _ (by show w.heap.size + 1 + 1 + 1 + 1 ≠ w.heap.size + 1 + 1 + 1; omega) (by show w.heap.size ≤ w.heap.size + 1 + 1 + 1; omega)) (kpl_below HB2.out hBs1 hz1)) (kpl_below HZ.out (by have h1 := HB2.out.size; omega) hz2)) KLz ownz (KA2.out.keep HZ.out) (KM2.out.keep HZ.out) (KF2.out.keep HZ.out) (KB2.out.trans (HZ.out.mono hz2)) hzz hA
          · have ha' : (a == [109, 111, 100, 117, 108, 101]) = false := beq_eq_false_iff_ne.2 ha
            have HX := Lib.hid (stepL_first (L := []) (p := p) (t := t) (show a ≠ firstW [] from ha))
            gi_wp2
            refine ⟨trivial, ?_⟩
            gi_wp2
            gi_region
            all_goals
              gi_wp2
              first
                | exact fault_end (KeepsOthers.setCell _ _ _) H1.out HX.out (FaultW.drew (faultA KM1.out KF1.out KB1.out))
                | exact fault_end (KeepsOthers.setCell _ _ _) H1.out HX.out (FaultW.drew (faultB KM1.out KF1.out KB1.out))
        · have hn3 : ((ws.length : Int) != 3) = true := by simp; omega
          have HX := Lib.hid (show stepL [] ws = none by unfold stepL; rw [if_neg hw0, wordM_len h3]; rfl)
          gi_wp2
          refine ⟨trivial, ?_⟩
          gi_wp2
          gi_region
          all_goals
            gi_wp2
            first
              | exact fault_end (KeepsOthers.setCell _ _ _) H1.out HX.out (FaultW.drew (faultA KM1.out KF1.out KB1.out))
              | exact fault_end (KeepsOthers.setCell _ _ _) H1.out HX.out (FaultW.drew (faultB KM1.out KF1.out KB1.out))
      · have hfw : firstW L = [114, 101, 113, 117, 105, 114, 101] := by unfold firstW; rw [if_neg hL]; rfl
        have HFW := Lib.hid hfw
        have hLpos : (0 : Int) < (L.length : Int) := by have := List.length_pos_iff.2 hL; omega
        clear hfw hL
        by_cases h3 : ws.length = 3
        · obtain ⟨a, p, t, rfl⟩ : ∃ a p t, ws = [a, p, t] := by
            match ws, h3 with
            | [a, p, t], _ => exact ⟨a, p, t, rfl⟩
          clear h3 hw0 hwl HC
          have HA : ∃ b off, A = some ⟨b, off, none⟩ ∧ W.cell? ⟨b, off, none⟩ = some (.string ⟨a.toArray⟩) ∧ W.cell? ⟨b, off + 1, none⟩ = some (.string ⟨p.toArray⟩) ∧ W.cell? ⟨b, off + 2, none⟩ = some (.string ⟨t.toArray⟩) := by
            rcases HR1.out with h | ⟨b, off, h, _, hc⟩
            · cases h
            · exact ⟨b, off, h, hc 0 (by simp) 0 _ rfl, hc 1 (by simp) 0 _ rfl, hc 2 (by simp) 0 _ rfl⟩
          obtain ⟨b, off, rfl, g0, g1, g2⟩ := HA
          have hbb : w.heap.size + 1 + 1 + 1 + 1 + 1 ≤ b := HR4.out _ rfl
          have hpl : p.length ≤ 65536 := HR3.out p (by simp)
          have htl : t.length ≤ 65536 := HR3.out t (by simp)
          clear HR1 HR3 HR4 HSL hr2
          by_cases ha : a = [114, 101, 113, 117, 105, 114, 101]
          · subst ha
            have cP := Lib.hid (fun X (hX : Glob X) => Path_any p X (by unfold maxLen; omega) hX)
            cases hp : pathOk p
            · have HX := Lib.hid (stepL_path (L := L) (a := [114, 101, 113, 117, 105, 114, 101]) (t := t) hp)
              rw [hp] at cP
              gi_wp2_with (refine ⟨trivial, ?_⟩; gi_at_call 16; refine (CallsIn.inRound lp (callsIn_wide.2 (cP.out _ (HGW.out _ KB1.out)))).mono ?_; rintro e w2 ⟨rfl, hb2⟩; obtain ⟨⟨x0, x1, x2, x3, x4⟩, ⟨y0, y1, y2, y3, y4⟩, ⟨z0, z1⟩, ⟨u0, u1⟩, v0⟩ := own_cells (KM1.out.keep hb2) (KF1.out.keep hb2) (KA1.out.keep hb2))
              have KM2 := Lib.hid (KM1.out.keep hb2)
              have KF2 := Lib.hid (KF1.out.keep hb2)
              have hz1 := KB1.out.size
              have KB2 := Lib.hid (KB1.out.trans (hb2.mono hz1))
              have KO2 := Lib.hid ((KeepsOthers.setCell W ⟨w.heap.size + 1 + 1 + 1, 0, none⟩ (.int .i64 ((pre.length : Int) + 1))).trans (keeps_below hb2))
              gi_region
              all_goals
                gi_wp2
                first
                  | exact fault_end KO2.out H1.out HX.out (FaultW.drew (faultA KM2.out KF2.out KB2.out))
                  | exact fault_end KO2.out H1.out HX.out (FaultW.drew (faultB KM2.out KF2.out KB2.out))
            · rw [hp] at cP
              have HXs := Lib.hid (stepL_some (L := L) (a := [114, 101, 113, 117, 105, 114, 101]) (t := t) HFW.out.symm hp)
              have g1s : (W.setCell ⟨w.heap.size + 1 + 1 + 1, 0, none⟩ (.int .i64 ((pre.length : Int) + 1))).cell? ⟨b, off + 1, none⟩ = some (.string ⟨p.toArray⟩) := (World.cell?_of_block (Below.heap_setCell W ⟨w.heap.size + 1 + 1 + 1, 0, none⟩ _ b (by show b ≠ w.heap.size + 1 + 1 + 1; omega))).trans g1
              have g2s : (W.setCell ⟨w.heap.size + 1 + 1 + 1, 0, none⟩ (.int .i64 ((pre.length : Int) + 1))).cell? ⟨b, off + 2, none⟩ = some (.string ⟨t.toArray⟩) := (World.cell?_of_block (Below.heap_setCell W ⟨w.heap.size + 1 + 1 + 1, 0, none⟩ _ b (by show b ≠ w.heap.size + 1 + 1 + 1; omega))).trans g2
              have hz1 := KB1.out.size
              cases hv : vparse t with
              | none =>
                have HX := Lib.hid (show stepL L [[114, 101, 113, 117, 105, 114, 101], p, t] = none by rw [HXs.out, hv]; rfl)
                have cV := Lib.hid (fun X hX => (vParse_any t X (by unfold maxLen; omega) hX).mono (R' := fun e w' => e = .returned (.tuple #[.agg #[.int .i64 0, .int .i64 0, .int .i64 0], .int .i64 8]) ∧ Below X.heap.size X w') (fun e w' h => by unfold RetVer vver verr at h; rw [hv] at h; exact h))
                gi_wp2_with (first
                  | (refine ⟨trivial, ?_⟩; gi_at_call 16; refine (CallsIn.inRound lp (callsIn_wide.2 (cP.out _ (HGW.out _ KB1.out)))).mono ?_; rintro e w2 ⟨rfl, hb2⟩; have KB2 := Lib.hid (KB1.out.trans (hb2.mono hz1)); have k2 := cell_keep hb2 g2s; have KM2 := Lib.hid (KM1.out.keep hb2); have KF2 := Lib.hid (KF1.out.keep hb2); have KA2 := Lib.hid (KA1.out.keep hb2); have KO2 := Lib.hid ((KeepsOthers.setCell W ⟨w.heap.size + 1 + 1 + 1, 0, none⟩ (.int .i64 ((pre.length : Int) + 1))).trans (keeps_below hb2)))
                  | (refine ⟨trivial, ?_⟩; gi_at_call 45; refine (CallsIn.inRound lp (callsIn_wide.2 (cV.out _ (HGW.out _ KB2.out)))).mono ?_; rintro e w3 ⟨rfl, hb3⟩; have hz2 := KB2.out.size; have HB3 := Lib.hid (hb3.alloc hb3.size (.cells #[.int .i64 0, .int .i64 0, .int .i64 0] 23)); obtain ⟨⟨x0, x1, x2, x3, x4⟩, ⟨y0, y1, y2, y3, y4⟩, ⟨z0, z1⟩, ⟨u0, u1⟩, v0⟩ := own_cells (KM2.out.keep HB3.out) (KF2.out.keep HB3.out) (KA2.out.keep HB3.out)))
                have KM3 := Lib.hid (KM2.out.keep HB3.out)
                have KF3 := Lib.hid (KF2.out.keep HB3.out)
                have KB3 := Lib.hid (KB2.out.trans (HB3.out.mono hz2))
                have KO3 := Lib.hid (KO2.out.trans (keeps_below HB3.out))
                gi_region
                all_goals
                  gi_wp2
                  first
                    | exact fault_end KO3.out H1.out HX.out (FaultW.drew (faultA KM3.out KF3.out KB3.out))
                    | exact fault_end KO3.out H1.out HX.out (FaultW.drew (faultB KM3.out KF3.out KB3.out))
              | some v =>
                obtain ⟨x, y, z⟩ := v
                have HX := Lib.hid (show stepL L [[114, 101, 113, 117, 105, 114, 101], p, t] = some (L ++ [(p, x, y, z)]) by rw [HXs.out, hv]; rfl)
                have cV := Lib.hid (fun X hX => (vParse_any t X (by unfold maxLen; omega) hX).mono (R' := fun e w' => e = .returned (.tuple #[.agg #[.int .i64 x, .int .i64 y, .int .i64 z], .int .i64 0]) ∧ Below X.heap.size X w') (fun e w' h => by unfold RetVer vver verr at h; rw [hv] at h; exact h))
                gi_wp2_with (first
                  | (refine ⟨trivial, ?_⟩; gi_at_call 16; refine (CallsIn.inRound lp (callsIn_wide.2 (cP.out _ (HGW.out _ KB1.out)))).mono ?_; rintro e w2 ⟨rfl, hb2⟩; have KB2 := Lib.hid (KB1.out.trans (hb2.mono hz1)); have k2 := cell_keep hb2 g2s; have k1 := cell_keep hb2 g1s; have KM2 := Lib.hid (KM1.out.keep hb2); have KF2 := Lib.hid (KF1.out.keep hb2); have KA2 := Lib.hid (KA1.out.keep hb2); have KL2 := Lib.hid (KL1.out.keep hb2); have KO2 := Lib.hid ((KeepsOthers.setCell W ⟨w.heap.size + 1 + 1 + 1, 0, none⟩ (.int .i64 ((pre.length : Int) + 1))).trans (keeps_below hb2)); have HB2 := Lib.hid hb2)
                  | (refine ⟨trivial, ?_⟩; gi_at_call 45; refine (CallsIn.inRound lp (callsIn_wide.2 (cV.out _ (HGW.out _ KB2.out)))).mono ?_; rintro e w3 ⟨rfl, hb3⟩; have hz2 := KB2.out.size; have HB3 := Lib.hid hb3))
                have HZ := Lib.hid (HB3.out.alloc HB3.out.size (.cells #[.int .i64 x, .int .i64 y, .int .i64 z] 23))
                have k1z := cell_keep HZ.out k1
                have KLz := KL2.out.keep HZ.out
                have bz := Blk.new w3 23 #[.int .i64 x, .int .i64 y, .int .i64 z]
                have own1 := KO.out.kept (grownBy_setCell' W (w.heap.size + 1 + 1 + 1) (.int .i64 ((pre.length : Int) + 1))) (.inr (own_apart KO.out (by omega)))
                have ownz := own_below2 (own_below2 own1 HB2.out) HZ.out
                have hzz : w.heap.size + 5 ≤ (w3.alloc (.cells #[.int .i64 x, .int .i64 y, .int .i64 z] 23)).heap.size := by have h1 := HB2.out.size; have h2 := HB3.out.size; have h3 : b < (W.setCell ⟨w.heap.size + 1 + 1 + 1, 0, none⟩ (.int .i64 ((pre.length : Int) + 1))).heap.size := lt_of_cell g1s; simp; omega
                have hBs1 : w.heap.size + 1 + 1 + 1 + 1 < (W.setCell ⟨w.heap.size + 1 + 1 + 1, 0, none⟩ (.int .i64 ((pre.length : Int) + 1))).heap.size := by have h3 : b < (W.setCell ⟨w.heap.size + 1 + 1 + 1, 0, none⟩ (.int .i64 ((pre.length : Int) + 1))).heap.size := lt_of_cell g1s; omega
                refine region17 (l := lp) (by simp) rfl rfl (by kernel_rfl) ?dep (B2 := w.heap.size + 1 + 1) (B8 := w3.heap.size) (b := b) (off := off) (c := c) (base := w.heap.size + 5) (k := L.length) (v := .slice A4 L.length c4) (xs := L.flatMap encM) (m := (p, x, y, z)) (by simp) rfl rfl rfl (KLz.cell 0) (KLz.free 0) (by omega) k1z (bz.cell 0) (bz.cell 1) (bz.cell 2) ownz (by first | omega | simp) hzz ⟨_, _, rfl⟩ ?hQ
                case dep =>
                  intro L' i j hij o ho h
                  simp only [deps17, List.mem_cons, Prod.mk.injEq, List.not_mem_nil, or_false] at hij
                  rcases hij with ⟨rfl, rfl⟩ | ⟨rfl, rfl⟩ | ⟨rfl, rfl⟩ | ⟨rfl, rfl⟩ | ⟨rfl, rfl⟩ | ⟨rfl, rfl⟩ | ⟨rfl, rfl⟩ | ⟨rfl, rfl⟩
                  all_goals
                    simp at ho
                    subst ho
                    simp [Region.binds] at h
                    simp [h]
                case hQ =>
                  rintro a' v' Y hA
                  exact round_add H1.out HX.out (KO2.out.trans (keeps_below HZ.out)) (kpl_trans (kpl_trans (kpl_set W ⟨w.heap.size + 1 + 1 + 1, 0, none⟩ _ (by show w.heap.size + 1 + 1 + 1 + 1 ≠ w.heap.size + 1 + 1 + 1; omega) (by show w.heap.size ≤ w.heap.size + 1 + 1 + 1; omega)) (kpl_below HB2.out hBs1 hz1)) (kpl_below HZ.out (by have h1 := HB2.out.size; omega) hz2)) KLz ownz (KA2.out.keep HZ.out) (KM2.out.keep HZ.out) (KF2.out.keep HZ.out) (KB2.out.trans (HZ.out.mono hz2)) hzz hA
          · have ha' : (a == [114, 101, 113, 117, 105, 114, 101]) = false := beq_eq_false_iff_ne.2 ha
            have HX := Lib.hid (stepL_first (L := L) (p := p) (t := t) (show a ≠ firstW L by rw [HFW.out]; exact ha))
            gi_wp2
            refine ⟨trivial, ?_⟩
            gi_wp2
            gi_region
            all_goals
              gi_wp2
              first
                | exact fault_end (KeepsOthers.setCell _ _ _) H1.out HX.out (FaultW.drew (faultA KM1.out KF1.out KB1.out))
                | exact fault_end (KeepsOthers.setCell _ _ _) H1.out HX.out (FaultW.drew (faultB KM1.out KF1.out KB1.out))
        · have hn3 : ((ws.length : Int) != 3) = true := by simp; omega
          have HX := Lib.hid (show stepL L ws = none by unfold stepL; rw [if_neg hw0, wordM_len h3]; rfl)
          gi_wp2
          refine ⟨trivial, ?_⟩
          gi_wp2
          gi_region
          all_goals
            gi_wp2
            first
              | exact fault_end (KeepsOthers.setCell _ _ _) H1.out HX.out (FaultW.drew (faultA KM1.out KF1.out KB1.out))
              | exact fault_end (KeepsOthers.setCell _ _ _) H1.out HX.out (FaultW.drew (faultB KM1.out KF1.out KB1.out))
  case done =>
    rintro D xs W hD hxs ⟨h1, ⟨v, h2, h3⟩, h4, h5, h6, h7⟩ hK
    rw [hxs] at h1
    have hml : xs.length = (linesP s).length := by have := congrArg List.length hxs; simpa [wds, allW] using this
    have H1 := Lib.hid h1
    generalize lstOf xs = L at H1 h3
    obtain ⟨A4, c4, rfl⟩ := Acc.shape (.inl h3)
    have cL := h2.cell 0
    simp at cL
    obtain ⟨⟨x0, x1, x2, x3, x4⟩, ⟨y0, y1, y2, y3, y4⟩, ⟨z0, z1⟩, ⟨u0, u1⟩, v0⟩ := own_cells h5 h6 h4
    have KM := Lib.hid h5
    have KF := Lib.hid h6
    have KAt := Lib.hid h4
    have KB := Lib.hid h7
    have KL := Lib.hid h2
    have KO := Lib.hid h3
    have HK := Lib.hid hK
    have hxl : xs.length ≤ 65536 := by have := linesP_len s.length s (Nat.le_refl _); omega
    clear h1 h2 h3 h4 h5 h6 h7 hK hxs
    cases L with
    | nil =>
      have HP := Lib.hid (mparse_none (by omega) H1.out)
      gi_wp2
      gi_region
      all_goals
        gi_wp2
        first
          | (obtain ⟨k0, ⟨e0, e1, e2, e3, e4⟩, ⟨f0, f1⟩, hbb⟩ := fault_cells ((faultA KM.out KF.out KB.out : FaultW w W _ 8 (((linesP s).length : Int) + 1)).drew) (by omega) HK.out
             refine ⟨by simp, .inl ⟨_, _, rfl, run_takeDeferred k0, ?_⟩⟩
             refine ⟨.tuple #[.agg #[.string ⟨#[]⟩, .int .i64 0, .int .i64 0, .int .i64 0, .slice none 0 0], .agg #[.int .i64 8, .int .i64 (((linesP s).length : Int) + 1)]], by simp [results, Tryz.results20, go_sem, e0, e1, e2, e3, e4, f0, f1], ?_⟩
             exact ⟨none, 0, by rw [HP.out]; rfl, (by rw [HP.out]; exact .inl rfl), hbb⟩)
          | (obtain ⟨k0, ⟨e0, e1, e2, e3, e4⟩, ⟨f0, f1⟩, hbb⟩ := fault_cells ((faultB KM.out KF.out KB.out : FaultW w W _ 8 (((linesP s).length : Int) + 1)).drew) (by omega) HK.out
             refine ⟨by simp, .inl ⟨_, _, rfl, run_takeDeferred k0, ?_⟩⟩
             refine ⟨.tuple #[.agg #[.string ⟨#[]⟩, .int .i64 0, .int .i64 0, .int .i64 0, .slice none 0 0], .agg #[.int .i64 8, .int .i64 (((linesP s).length : Int) + 1)]], by simp [results, Tryz.results20, go_sem, e0, e1, e2, e3, e4, f0, f1], ?_⟩
             exact ⟨none, 0, by rw [HP.out]; rfl, (by rw [HP.out]; exact .inl rfl), hbb⟩)
    | cons m l =>
      have hlp : (0 : Int) < ((m :: l).length : Int) := by show (0 : Int) < ((l.length + 1 : Nat) : Int); omega
      have hll := colL_len _ _ _ H1.out
      have hln : l.length ≤ 65536 := by simp [allW] at hll; omega
      have HP := Lib.hid (mparse_ok (by omega) H1.out)
      have hpo := Lib.hid (colL_paths _ _ _ H1.out (by simp))
      have hsl := (Acc.slAny (.inl KO.out) encM_len (by decide) : Sl W W.heap.size 4 encM A4 (m :: l))
      obtain ⟨g, cap, hgc⟩ := ownsRow_succ KO.out
      injection hgc with hg1 _ hg3
      subst hg1 hg3
      have hcap : l.length + 1 ≤ c4 := (Acc.cap (.inl KO.out) : (m :: l).length ≤ c4)
      have hs1 := hsl.drop c4 1 (by simpa using hcap)
      have rc := fun X => run_cut_lo elMod (some ⟨g, 0, none⟩) (l.length + 1) c4 1 (by omega) X
      have HS := Lib.hid hsl
      rcases hsl with h | ⟨b', off', e', _, hcs⟩
      · cases h
      injection e' with e'
      injection e' with e1 e2
      subst e1 e2
      have g0 := hcs 0 (by simp) 0 _ rfl
      have g1 := hcs 0 (by simp) 1 _ rfl
      have g2 := hcs 0 (by simp) 2 _ rfl
      have g3 := hcs 0 (by simp) 3 _ rfl
      simp at g0 g1 g2 g3
      have HS1 := Lib.hid hs1
      have hcl : (some (Addr.mk g 0 none), c4) = (some (Addr.mk g 0 none), c4) := rfl
      clear hcs hs1 hll hcl
      gi_wp2
      refine wpIn_wide.2 (wp_cut (fun a' Z => ∃ (B : Nat) (A5 : Option Addr) (c5 : Nat) (u68 u69 u70 u75 u76 u77 u78 u79 u80 u81 : Value), a' = ⟨#[.string ⟨s.toArray⟩, undef, .pointer (some ⟨w.heap.size, 0, none⟩), .pointer (some ⟨w.heap.size + 1, 0, none⟩), .pointer (some ⟨w.heap.size + 1 + 1, 0, none⟩), .pointer (some ⟨w.heap.size + 1 + 1 + 1, 0, none⟩), undef, undef, undef, undef, .pointer (some ⟨B, 0, none⟩), undef, .string ⟨s.toArray⟩, .int .i64 (s.length : Nat), .bool false, undef, undef, .string ⟨s.toArray⟩, .func (.func 61) #[] #[.pointer (some ⟨w.heap.size + 1 + 1 + 1 + 1, 0, none⟩)], undef, undef, undef, undef, undef, undef, undef, undef, undef, undef, undef, undef, undef, undef, undef, undef, undef, undef, undef, undef, undef, undef, undef, undef, undef, undef, undef, undef, undef, undef, undef, undef, undef, undef, undef, undef, undef, undef, undef, undef, undef, undef, undef, undef, undef, undef, undef, undef, undef, u68, u69, u70, undef, undef, undef, undef, u75, u76, u77, u78, u79, u80, u81, undef, undef, undef, undef, undef, undef, undef, undef, undef], [{ target := .collected D, args := #[] }]⟩ ∧
        Blk Z B 28 #[.string ⟨m.1.toArray⟩, .int .i64 m.2.1, .int .i64 m.2.2.1, .int .i64 m.2.2.2, .slice A5 l.length c5] ∧ Sl Z Z.heap.size 4 encM A5 (msort l) ∧ (msort l = [] ∨ ∀ a, A5 = some a → W.heap.size ≤ a.block) ∧ Below W.heap.size W Z) ?region ?rest)
      case rest =>
        rintro a' Z ⟨B, A5, c5, u68, u69, u70, u75, u76, u77, u78, u79, u80, u81, rfl, hZ, hS, hfar, hb⟩
        have hbz := hb.size
        obtain ⟨⟨x0, x1, x2, x3, x4⟩, ⟨y0, y1, y2, y3, y4⟩, ⟨z0, z1⟩, ⟨u0, u1⟩, v0⟩ := own_cells (KM.out.keep hb) (KF.out.keep hb) (KAt.out.keep hb)
        have b0 := hZ.cell 0
        have b1 := hZ.cell 1
        have b2 := hZ.cell 2
        have b3 := hZ.cell 3
        have b4 := hZ.cell 4
        simp at b0 b1 b2 b3 b4
        have hml2 := msort_len l
        have hmc : mcheck m (msort l) = mcheck m l := mcheck_perm m (List.mergeSort_perm l _)
        have cC0 := Check_any m A5 c5 (msort l) Z hS (by omega) (fun x hx => by
          have h60 := hpo.out x (by
            rcases List.mem_cons.1 hx with rfl | hx
            · simp
            · exact List.mem_cons_of_mem _ ((List.mergeSort_perm l _).mem_iff.1 hx))
          unfold maxLen
          omega) (HG.out.keep (KB.out.trans (hb.mono KB.out.size)))
        rw [hml2, hmc] at cC0
        have hDZ : D < W.heap.size := (Array.getElem?_eq_some_iff.1 HK.out).1
        have KZ := Lib.hid ((hb.block D hDZ).trans HK.out)
        have HZ := Lib.hid hZ
        have HS2 := Lib.hid hS
        have HFar := Lib.hid hfar
        have HbZ := Lib.hid hb
        have HP2 := HP.out
        generalize mcheck m l = E at cC0 HP2
        have cC := Lib.hid cC0
        clear cC0 hZ hS hfar hmc
        dsimp only
        by_cases hE : E = 0
        · subst hE
          rw [if_pos rfl] at HP2
          have HP3 := Lib.hid HP2
          clear HP2
          gi_wp2_with (refine ⟨trivial, ?_⟩; gi_at_call 14; refine (callsIn_wide.2 cC.out).mono ?_; rintro e w2 ⟨rfl, hb2⟩; have hx2 := Lib.hid hb2; have p0 := cell_keep hb2 b0; have p1 := cell_keep hb2 b1; have p2 := cell_keep hb2 b2; have p3 := cell_keep hb2 b3; have p4 := cell_keep hb2 b4; obtain ⟨⟨x0, x1, x2, x3, x4⟩, ⟨y0, y1, y2, y3, y4⟩, ⟨z0, z1⟩, ⟨u0, u1⟩, v0⟩ := own_cells ((KM.out.keep HbZ.out).keep hb2) ((KF.out.keep HbZ.out).keep hb2) ((KAt.out.keep HbZ.out).keep hb2))
          have hZ2 := HbZ.out.trans (hx2.out.mono hbz)
          obtain ⟨k0, ⟨e0, e1, e2, e3, e4⟩, ⟨f0, f1⟩, hSX, hbb⟩ := ok_cells (m := m) (A := A5) (n := l.length) (c := c5) ((KM.out.keep HbZ.out).keep hx2.out) ((KF.out.keep HbZ.out).keep hx2.out) (KB.out.trans (hZ2.mono KB.out.size)) (by omega : w.heap.size + 5 ≤ D) ((hx2.out.block D (by omega)).trans KZ.out) ((HS2.out.below hx2.out).more hx2.out.size) (by
            rcases HFar.out with h | h
            · exact .inl h
            · exact .inr fun a ha => by have := h a ha; omega) rfl
          refine ⟨by simp, .inl ⟨_, _, rfl, run_takeDeferred k0, ?_⟩⟩
          refine ⟨.tuple #[.agg #[.string ⟨m.1.toArray⟩, .int .i64 m.2.1, .int .i64 m.2.2.1, .int .i64 m.2.2.2, .slice A5 l.length c5], .agg #[.int .i64 0, .int .i64 0]], by simp [results, Tryz.results20, go_sem, e0, e1, e2, e3, e4, f0, f1], ?_⟩
          refine ⟨A5, c5, by rw [HP3.out]; simp only [hml2]; rfl, ?_, hbb⟩
          rw [HP3.out]
          exact hSX
        · have hE' : (E != 0) = true := by simpa using hE
          rw [if_neg hE] at HP2
          have HP3 := Lib.hid HP2
          clear HP2
          gi_wp2_with (refine ⟨trivial, ?_⟩; gi_at_call 14; refine (callsIn_wide.2 cC.out).mono ?_; rintro e w2 ⟨rfl, hb2⟩; have hx2 := Lib.hid hb2; obtain ⟨⟨x0, x1, x2, x3, x4⟩, ⟨y0, y1, y2, y3, y4⟩, ⟨z0, z1⟩, ⟨u0, u1⟩, v0⟩ := own_cells ((KM.out.keep HbZ.out).keep hb2) ((KF.out.keep HbZ.out).keep hb2) ((KAt.out.keep HbZ.out).keep hb2))
          have hZ2 := HbZ.out.trans (hx2.out.mono hbz)
          obtain ⟨k0, ⟨e0, e1, e2, e3, e4⟩, ⟨f0, f1⟩, hbb⟩ := fault_cells (faultA ((KM.out.keep HbZ.out).keep hx2.out) ((KF.out.keep HbZ.out).keep hx2.out) (KB.out.trans (hZ2.mono KB.out.size)) : FaultW w w2 _ E 0) (by omega) ((hx2.out.block D (by omega)).trans KZ.out)
          refine ⟨by simp, .inl ⟨_, _, rfl, run_takeDeferred k0, ?_⟩⟩
          refine ⟨.tuple #[.agg #[.string ⟨#[]⟩, .int .i64 0, .int .i64 0, .int .i64 0, .slice none 0 0], .agg #[.int .i64 E, .int .i64 0]], by simp [results, Tryz.results20, go_sem, e0, e1, e2, e3, e4, f0, f1], ?_⟩
          exact ⟨none, 0, by rw [HP3.out]; rfl, (by rw [HP3.out]; exact .inl rfl), hbb⟩
      have h1l : (1 : Int) ≤ (l.length : Int) + 1 := by omega
      have hA1 : cutA (some ⟨g, 0, none⟩) c4 1 4 = if c4 = 1 then some ⟨g, 0, none⟩ else some ⟨g, 4, none⟩ := by unfold cutA; split <;> simp [Addr.add]
      have cS0 := fun X (hX : Below W.heap.size W X) => sorted_far m (cutA (some ⟨g, 0, none⟩) c4 1 4) (c4 - 1) l X (((show Sl W W.heap.size 4 encM (cutA (some ⟨g, 0, none⟩) c4 1 4) l from HS1.out).below hX).more hX.size) (by omega)
      rw [hA1] at cS0
      have cS := Lib.hid cS0
      clear cS0 hA1 rc
      have cLa := cell_keep_alloc (.cells #[.string ⟨#[]⟩, .int .i64 0, .int .i64 0, .int .i64 0, .slice none 0 0] 28) cL
      have g0a := cell_keep_alloc (.cells #[.string ⟨#[]⟩, .int .i64 0, .int .i64 0, .int .i64 0, .slice none 0 0] 28) g0
      have g1a := cell_keep_alloc (.cells #[.string ⟨#[]⟩, .int .i64 0, .int .i64 0, .int .i64 0, .slice none 0 0] 28) g1
      have g2a := cell_keep_alloc (.cells #[.string ⟨#[]⟩, .int .i64 0, .int .i64 0, .int .i64 0, .slice none 0 0] 28) g2
      have g3a := cell_keep_alloc (.cells #[.string ⟨#[]⟩, .int .i64 0, .int .i64 0, .int .i64 0, .slice none 0 0] 28) g3
      go_region_law (first | (go_simp; go_at_call 41; refine (cS.out _ (by first | exact (Below.refl _ _).drew | exact ((Below.refl _ _).drew.alloc (Nat.le_refl _) _) | exact (((Below.refl _ _).alloc (Nat.le_refl _) _).drew))).mono ?_; rintro e w1 ⟨A5, c5, rfl, hS5, hb5, hfar⟩; (try (have qz := (show Blk ((W.alloc (.cells manZ 28)).drew) W.heap.size 28 manZ from Blk.new W 28 manZ).keep hb5; have q0 := qz.cell 0; have q1 := qz.cell 1; have q2 := qz.cell 2; have q3 := qz.cell 3; have q4 := qz.cell 4; have r0 := qz.free 0; have r1 := qz.free 1; have r2 := qz.free 2; have r3 := qz.free 3; have r4 := qz.free 4; simp [manZ] at q0 q1 q2 q3 q4))))
      all_goals
        first
          | (refine ⟨W.heap.size, A5, c5, _, _, _, _, _, _, _, _, _, _, rfl, ((((qz.set_ 0 _).set_ 1 _).set_ 2 _).set_ 3 _).set_ 4 _, ?_, ?_, ?_⟩
             · have hne : msort l = [] ∨ ∀ a, A5 = some a → a.block ≠ W.heap.size := by
                 rcases hfar with h | h
                 · exact .inl (by rw [h]; simp [msort])
                 · refine .inr fun a ha => ?_
                   have := h a ha
                   have hz : (W.alloc (.cells manZ 28)).heap.size ≤ a.block := this
                   simp at hz
                   omega
               have hszz : ∀ (X : World) p u, (X.setCell p u).heap.size = X.heap.size := fun X p u => by simp [World.setCell]
               simp only [hszz]
               exact ((((hS5.setCell _ _ hne).setCell _ _ hne).setCell _ _ hne).setCell _ _ hne).setCell _ _ hne
             · rcases hfar with h | h
               · exact .inl (by rw [h]; simp [msort])
               · refine .inr fun a ha => ?_
                 have hz : (W.alloc (.cells manZ 28)).heap.size ≤ a.block := h a ha
                 simp at hz
                 omega
             · have hX : Below W.heap.size W w1 := (((Below.refl _ _).alloc (Nat.le_refl _) (.cells manZ 28)).drew).trans (hb5.mono (by show W.heap.size ≤ (W.alloc _).heap.size; simp))
               exact ((((hX.setCell (Nat.le_refl _) _).setCell (Nat.le_refl _) _).setCell (Nat.le_refl _) _).setCell (Nat.le_refl _) _).setCell (Nat.le_refl _) _)
          | (refine ⟨w1.heap.size, A5, c5, _, _, _, _, _, _, _, _, _, _, rfl, Blk.new _ _ _, ?_, ?_, ?_⟩
             · exact (hS5.below ((Below.refl _ _).alloc (Nat.le_refl _) _)).more (by simp)
             · rcases hfar with h | h
               · exact .inl (by rw [h]; simp [msort])
               · exact .inr h
             · exact ((Below.refl _ W).drew.trans hb5).alloc hb5.size _)
  case stop =>
    rintro D c pre W hD ⟨r, hr⟩ ⟨rfl, ⟨p, x, l, hp, hc, hx⟩, h5, h6, h7⟩ hK
    have HP := Lib.hid (mparse_bad (s := s) (by omega) (show allW s = p ++ x :: r by rw [hr, hp]; simp) hc hx)
    have hpl : p.length + 1 = pre.length := by have := congrArg List.length hp; simp [wds] at this; omega
    rw [hpl] at HP
    gi_wp2
    refine ⟨by simp, .inl ⟨_, _, rfl, run_takeDeferred hK, ?_⟩⟩
    have k5 : Blk (W.putObj D (.deferred none)) w.heap.size 28 manZ := (World.putObj_heap_other (by omega)).trans h5
    have k6 : Blk (W.putObj D (.deferred none)) (w.heap.size + 1) 38 #[.int .i64 8, .int .i64 (pre.length : Nat)] := (World.putObj_heap_other (by omega)).trans h6
    have e0 := k5.cell 0
    have e1 := k5.cell 1
    have e2 := k5.cell 2
    have e3 := k5.cell 3
    have e4 := k5.cell 4
    have f0 := k6.cell 0
    have f1 := k6.cell 1
    simp [manZ] at e0 e1 e2 e3 e4 f0 f1
    refine ⟨.tuple #[.agg #[.string ⟨#[]⟩, .int .i64 0, .int .i64 0, .int .i64 0, .slice none 0 0], .agg #[.int .i64 8, .int .i64 (pre.length : Nat)]], by simp [results, Tryz.results20, go_sem, e0, e1, e2, e3, e4, f0, f1], ?_⟩
    refine ⟨none, 0, by rw [HP.out]; rfl, ?_, h7.trans (belowK_b (w := w) (Nat.le_refl _) W D _ _ (by omega) hK rfl rfl)⟩
    rw [HP.out]
    exact .inl rfl
end Go.Proofs.YtbbdoibmcmkmnaaGreatDoor
