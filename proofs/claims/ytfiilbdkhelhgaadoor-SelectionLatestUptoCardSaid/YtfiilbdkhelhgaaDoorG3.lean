/- Several texts in one: WL WM WM2 WN PG PY PS1 PS2 PS3 PS4 PS5 PS6. -/
import Derived.Test.YtfiilbdkhelhgaaDoorWK
import Derived.Lib.QuietBelow
import Derived.Sort.Walk0
namespace Go.Proofs.YtfiilbdkhelhgaaDoor
open Go.RowKit Go.Sort

theorem grow_of_belowD {w w' : World} (h : BelowD w.heap.size w w') : ∃ q os', w' = grow (w.drewN q) os' := by
  obtain ⟨p, rfl⟩ := regrown_of_below h.toBelow
  have hd : w.drawn ≤ p.d := h.drawn
  refine ⟨p.d - w.drawn, p.os, ?_⟩
  have e : redrawn w p.d = w.drewN (p.d - w.drawn) := by
    unfold redrawn World.drewN
    congr 1
    omega
  rw [e]

section
variable {α : Type} [Inhabited α] {enc : α → List Value} {k : Nat}
theorem getBang_of {β : Type} [Inhabited β] {l : List β} {i : Nat} {v : β} (h : l[i]? = some v) : l[i]! = v := by simp [h]
theorem holdsK_of_owns (hk : ∀ x, (enc x).length = k) {w : World} {base : Nat} {e : TypeId} {v : Value} {l : List α} (h : w.ownsRow base e k v l.length (l.flatMap enc)) (hv : v ≠ .slice none 0 0) :
    ∃ g cap, v = .slice (some ⟨g, 0, none⟩) l.length cap ∧ base ≤ g ∧ g < w.heap.size ∧ HoldsK enc k w g 0 l.toArray := by
  have hw := h
  rcases h.2 with ⟨rfl, _⟩ | ⟨g, cap, cur, rfl, hbase, hh, _⟩
  · exact absurd rfl hv
  · have hlt : g < w.heap.size := by
      rcases Nat.lt_or_ge g w.heap.size with hlt | hge
      · exact hlt
      · rw [Array.getElem?_eq_none hge] at hh; cases hh
    refine ⟨g, cap, rfl, hbase, hlt, fun j hj => ?_⟩
    simp only [size_flatK, List.size_toArray] at hj
    refine ⟨?_, by simp [World.frozen?, hh]⟩
    obtain ⟨h1, h2, h3⟩ := flat_split hj
    rw [Nat.zero_add, hw.cellAt j hj, get_flatK _ _ _ _ (by simpa using hj)]
    have hi : j % k < (enc l[j / k]).length := by rw [hk]; exact h2
    have e1 : (l.flatMap enc)[j]? = (enc l[j / k])[j % k]? := by
      have := flat_at hk l _ h1 _ h2
      rwa [← h3] at this
    rw [e1]
    simp [h1, hi]
theorem sl_of_holdsK (hk : ∀ x, (enc x).length = k) {w : World} {blk off : Nat} {l : List α} (h : HoldsK enc k w blk off l.toArray) (hb : blk < w.heap.size) : Sl w w.heap.size k enc (some ⟨blk, off, none⟩) l := by
  refine .inr ⟨blk, off, rfl, hb, fun i hi j v hv => ?_⟩
  have hj : j < k := by rw [← hk l[i]]; exact (List.getElem?_eq_some_iff.1 hv).1
  have := (h.cell (i := i) (c := j) (by simpa using hi) hj).1
  rw [this]
  congr 1
  have e : (l.toArray)[i]! = l[i] := by simp [hi]
  rw [e]
  exact getBang_of hv
theorem below_sortWorldK {w : World} {base blk off m : Nat} {dk : Array α} {os : Array Obj} (h1 : base ≤ blk) (h2 : blk < w.heap.size) : Below base w (sortWorldK enc k w blk off m dk os) := by
  refine ⟨rfl, rfl, rfl, size_sortWorldK_c enc k w blk off m dk os, fun i hi => ?_⟩
  unfold sortWorldK
  rw [heap_grow_old _ _ (by rw [size_putRowK]; show i < w.heap.size; omega)]
  unfold putRowK putRow mapBlock
  simp only [Array.getElem?_modify]
  rw [if_neg (by omega)]
  rfl
end

/-- the order of modules -/
def mlt (x y : Mod) : Bool := ltOf mcmp x y
theorem vcmp_flip (x y z x' y' z' : Int) : vcmp x y z x' y' z' < 0 ↔ 0 < vcmp x' y' z' x y z := by
  unfold vcmp; repeat' split
  all_goals omega
theorem mlt_iff (m n : Mod) : ltOf mcmp m n = true ↔ Op.bytesLess m.1 n.1 = true ∨ (m.1 = n.1 ∧ vcmp m.2.1 m.2.2.1 m.2.2.2 n.2.1 n.2.2.1 n.2.2.2 < 0) := by
  unfold ltOf
  rw [decide_eq_true_iff]
  unfold mcmp
  by_cases h1 : Op.bytesLess m.1 n.1 = true
  · simp [h1]
  · by_cases h2 : m.1 = n.1
    · simp [h2, bl_irrefl]
    · simp [h1, h2]
theorem mlt_total (m n : Mod) (h1 : ltOf mcmp m n = false) (h2 : ltOf mcmp n m = false) : m = n := by
  have a : ¬ ltOf mcmp m n = true := by simp [h1]
  have b : ¬ ltOf mcmp n m = true := by simp [h2]
  rw [mlt_iff] at a b
  have e : m.1 = n.1 := bl_total _ _ (by simpa using fun h => a (.inl h)) (by simpa using fun h => b (.inl h))
  have a' : ¬ vcmp m.2.1 m.2.2.1 m.2.2.2 n.2.1 n.2.2.1 n.2.2.2 < 0 := fun h => a (.inr ⟨e, h⟩)
  have b' : ¬ vcmp n.2.1 n.2.2.1 n.2.2.2 m.2.1 m.2.2.1 m.2.2.2 < 0 := fun h => b (.inr ⟨e.symm, h⟩)
  rw [vcmp_flip] at b'
  refine (mcmp_eq m n).1 ?_
  unfold mcmp
  rw [e, bl_irrefl]
  simp
  omega
theorem mlt_trans (x y z : Mod) (h1 : ltOf mcmp x y = true) (h2 : ltOf mcmp y z = true) : ltOf mcmp x z = true := by
  rw [mlt_iff] at *
  rcases h1 with h1 | ⟨e1, h1⟩
  · rcases h2 with h2 | ⟨e2, h2⟩
    · exact .inl (bl_trans _ _ _ h1 h2)
    · exact .inl (e2 ▸ h1)
  · rcases h2 with h2 | ⟨e2, h2⟩
    · exact .inl (e1 ▸ h2)
    · refine .inr ⟨e1.trans e2, ?_⟩
      rw [vcmp_neg] at *
      omega
theorem mlt_irrefl (x : Mod) : ltOf mcmp x x = false := by simp [ltOf, mcmp_refl]
theorem swo_of {β : Type} {lt : β → β → Bool} (h1 : ∀ x, lt x x = false) (h2 : ∀ x y z, lt x y = true → lt y z = true → lt x z = true) (h3 : ∀ x y, lt x y = false → lt y x = false → x = y) : SWO lt where
  irrefl := h1
  trans := h2
  ntrans x y z a b := by
    cases hyx : lt y x
    · rw [h3 x y a hyx]; exact b
    · cases hxz : lt x z
      · rfl
      · have := h2 y x z hyx hxz
        rw [b] at this; cases this
theorem mlt_swo : SWO (ltOf mcmp) := swo_of mlt_irrefl mlt_trans mlt_total
/-- modules, sorted -/
def msort (l : List Mod) : List Mod := l.mergeSort fun x y => !(ltOf mcmp) y x
theorem msort_len (l : List Mod) : (msort l).length = l.length := List.length_mergeSort l
theorem encM_one1 (x : Mod) : ∀ v ∈ encM x, v.oneCell' = true := fun v hv => by
  simp [encM] at hv
  rcases hv with rfl | rfl | rfl | rfl <;> rfl

/-- modules in new memory are sorted in place -/
theorem sortM_any (v : Value) (l : List Mod) (w : World) (base : Nat) (h : w.ownsRow base 26 4 v l.length (l.flatMap encM)) (hv : v ≠ .slice none 0 0) (hl : l.length ≤ 1099511627776) :
    Calls Tryd.prog 54 #[v, .func (.func 34) #[] #[]] w fun e w' => e = .returned (.tuple #[]) ∧ (∃ A c, v = .slice A l.length c ∧ l.length ≤ c ∧ Sl w' w'.heap.size 4 encM A (msort l)) ∧ Below base w w' := by
  have hcap : ∀ A n c, v = .slice A n c → l.length ≤ c := by
    rcases h.2 with ⟨rfl, _⟩ | ⟨g, cap, cur, rfl, _, _, hc, _⟩
    · exact absurd rfl hv
    · intro A n c e
      injection e with _ _ e3
      omega
  obtain ⟨g, cap, rfl, hbase, hlt, hH⟩ := holdsK_of_owns encM_len h hv
  refine (AnyQ.slices_SortFunc_total Tryd.sortM 4 Tryd.isAgg26 Tryd.sizeOf26 encM encM_len encM_one1 mcmp mlt_swo 34 #[] g 0 cap l.toArray w (enters_of Tryd.func34 (by kernel_rfl) rfl)
    (fun m os dk _ x y => (mCompare_any x.1 y.1 x.2.1 x.2.2.1 x.2.2.2 y.2.1 y.2.2.1 y.2.2.2 _).mono fun e w' ⟨h1, h2⟩ => ⟨h1, grow_of_belowD h2⟩) hH hlt (by simp; omega) mlt_total).mono ?_
  rintro e w' ⟨rfl, n, os, rfl⟩
  refine ⟨rfl, ⟨_, _, rfl, hcap _ _ _ rfl, ?_⟩, below_sortWorldK hbase hlt⟩
  refine sl_of_holdsK encM_len (holdsK_sortWorldK_c encM 4 w g 0 l.toArray _ n os hH hlt (by simp)) ?_
  exact Nat.lt_of_lt_of_le hlt (size_sortWorldK_c encM 4 w g 0 n _ os)
end Go.Proofs.YtfiilbdkhelhgaaDoor

namespace Go.Proofs.YtfiilbdkhelhgaaDoor
open Go.RowKit Go.Sort

/-- a row of modules in new memory, or an empty one -/
def NewRow (w : World) (base : Nat) (v : Value) (l : List Mod) : Prop :=
  (l = [] ∧ ∃ A c, v = .slice A 0 c) ∨ (v ≠ .slice none 0 0 ∧ w.ownsRow base 26 4 v l.length (l.flatMap encM))
theorem NewRow.slice {w : World} {base : Nat} {v : Value} {l : List Mod} (h : NewRow w base v l) : ∃ A c, v = .slice A l.length c := by
  rcases h with ⟨rfl, A, c, rfl⟩ | ⟨_, h⟩
  · exact ⟨A, c, rfl⟩
  · exact Acc.shape (.inl h)

set_option maxRecDepth 100000 in
set_option maxHeartbeats 1000000 in
theorem cloneM_any (A : Option Addr) (c : Nat) (l : List Mod) (w : World) (hA : Sl w w.heap.size 4 encM A l) (hl : l.length ≤ 1099511627776) :
    Calls Tryd.prog 50 #[.slice A l.length c] w fun e w' => ∃ v, e = .returned v ∧ NewRow w' w.heap.size v l ∧ Below w.heap.size w w' := by
  rcases hA with rfl | ⟨b, off, rfl, hb, hc⟩
  · rcases A with _ | ad
    · refine (AnyE.slices_Clone_nil Tryd.cloneM 0 c w).mono ?_
      rintro e w' ⟨rfl, rfl⟩
      exact ⟨_, rfl, .inl ⟨rfl, _, _, rfl⟩, Below.refl _ _⟩
    · have q := fun (w : World) => Lib.run_eql_slice_nil w _ _ (some ad) 0 c 0 0 Tryd.underlying27
      have hac := Acc.marked w #[] w.heap.size 26 4 0 (0, 0) rfl
      show Calls Tryd.prog 50 #[.slice (some ad) 0 c] w _
      go_enter Tryd.func50, Tryd.ntmps50
      go_wp2_with (at_builtin; refine wpList_app _ rfl (.tmp 5) (.tmp 6) 27 rfl w.heap.size 26 4 40 elMod (.slice (some ⟨w.heap.size, 0, none⟩) 0 0) 0 _ rfl hac (some ad) 0 c [] rfl ⟨rfl, fun h => absurd h (by decide)⟩ (by simp) (by simp [maxLen]) (by omega) (by simp) ?_; intro v' w1 hacc' _ hb' _ _)
      go_ret
      obtain ⟨A', c', rfl⟩ := hacc'.shape
      exact ⟨_, rfl, .inl ⟨rfl, _, _, rfl⟩, ((Below.refl _ _).alloc (Nat.le_refl _) _).trans hb'⟩
  · obtain ⟨_, h0, i, z, e1, e2, e3, e4, e5⟩ := elMod
    have hsr := (Sl.src (.inr ⟨b, off, rfl, hb, hc⟩ : Sl w w.heap.size 4 encM (some ⟨b, off, none⟩) l) encM_len)
    rcases Nat.eq_zero_or_pos l.length with h0' | hpos
    · obtain rfl : l = [] := List.eq_nil_of_length_eq_zero h0'
      refine (AnyE.slices_Clone Tryd.cloneM i z 4 40 e1 e2 e3 e4 e5 h0 Tryd.sizeOf26 b off 0 c [] w rfl (by simp [maxLen]) (by omega) (by simp) (by simp)).mono ?_
      rintro e w' ⟨v, rfl, h1, h2, h3⟩
      exact ⟨v, rfl, .inr ⟨h2, h1⟩, h3⟩
    · refine (AnyE.slices_Clone Tryd.cloneM i z 4 40 e1 e2 e3 e4 e5 h0 Tryd.sizeOf26 b off l.length c (l.flatMap encM) w (flat_len encM_len l) (by simp only [maxLen]; omega) (by omega) (fun j u hu => ?_) (encM_one l)).mono ?_
      · obtain ⟨ad, had, hcs⟩ := hsr.2 hpos
        injection had with had
        subst had
        have := hcs j u hu
        rwa [Addr.add_lit] at this
      · rintro e w' ⟨v, rfl, h1, h2, h3⟩
        exact ⟨v, rfl, .inr ⟨h2, h1⟩, h3⟩

theorem sortMs_any (v : Value) (l : List Mod) (w : World) (base : Nat) (h : NewRow w base v l) (hl : l.length ≤ 1099511627776) :
    Calls Tryd.prog 54 #[v, .func (.func 34) #[] #[]] w fun e w' => e = .returned (.tuple #[]) ∧ (∃ A c, v = .slice A l.length c ∧ Sl w' w'.heap.size 4 encM A (msort l)) ∧ Below base w w' := by
  rcases h with ⟨rfl, A, c, rfl⟩ | ⟨hv, h⟩
  · refine (AnyF.slices_SortFunc_none Tryd.sortM A c _ w).mono ?_
    rintro e w' ⟨rfl, rfl⟩
    exact ⟨rfl, ⟨A, c, rfl, .inl (by simp [msort])⟩, Below.refl _ _⟩
  · refine (sortM_any v l w base h hv hl).mono ?_
    rintro e w' ⟨rfl, ⟨A, c, rfl, _, h1⟩, h2⟩
    exact ⟨rfl, ⟨A, c, rfl, h1⟩, h2⟩

theorem Sl.setCell {α : Type} {w : World} {B k : Nat} {enc : α → List Value} {A : Option Addr} {l : List α} (h : Sl w B k enc A l) (p : Addr) (u : Value) (hne : l = [] ∨ ∀ a, A = some a → a.block ≠ p.block) : Sl (w.setCell p u) B k enc A l := by
  rcases hne with rfl | hne
  · exact .inl rfl
  · rcases h with h | ⟨b, off, e, hb, hc⟩
    · exact .inl h
    · exact .inr ⟨b, off, e, hb, fun i hi j v hv => (World.cell?_of_block (w := w) (Below.heap_setCell w p u b (hne _ e))).trans (hc i hi j v hv)⟩
theorem blk_keep2 {w0 w1 w2 : World} {B g : Nat} {t : TypeId} {cs : Array Value} (h : Blk w0 g t cs) (h1 : Below B w0 w1) (h2 : Below B w1 w2) (hg : g < B) : Blk w2 g t cs := ((h2.block g hg).trans (h1.block g hg)).trans h
set_option maxRecDepth 100000 in
set_option maxHeartbeats 2000000 in
theorem sorted_far (m : Mod) (A : Option Addr) (c : Nat) (l : List Mod) (w : World) (hA : Sl w w.heap.size 4 encM A l) (hl : l.length ≤ 1099511627776) :
    Calls Tryd.prog 35 #[.agg #[.string ⟨m.1.toArray⟩, .int .i64 m.2.1, .int .i64 m.2.2.1, .int .i64 m.2.2.2, .slice A l.length c]] w fun e w' =>
      ∃ A' c', e = .returned (.agg #[.string ⟨m.1.toArray⟩, .int .i64 m.2.1, .int .i64 m.2.2.1, .int .i64 m.2.2.2, .slice A' l.length c']) ∧ Sl w' w'.heap.size 4 encM A' (msort l) ∧ Below w.heap.size w w' ∧ (l = [] ∨ ∀ a, A' = some a → w.heap.size ≤ a.block) := by
  have cc := Lib.hid (fun (W : World) (hW : Below w.heap.size w W) => cloneM_any A c l W ((hA.below hW).more hW.size) hl)
  clear hA
  go_enter Tryd.func35, Tryd.ntmps35
  have hblk0 := Lib.hid ((Blk.new w 29 #[.string ⟨m.1.toArray⟩, .int .i64 m.2.1, .int .i64 m.2.2.1, .int .i64 m.2.2.2, .slice A l.length c]).keep ((Below.refl _ _).alloc (Nat.le_refl _) (.cells #[.string ByteArray.empty, .int .i64 0, .int .i64 0, .int .i64 0, .slice none 0 0] 29)))
  have hblk1 := Lib.hid (Blk.new (w.alloc (.cells #[.string ⟨m.1.toArray⟩, .int .i64 m.2.1, .int .i64 m.2.2.1, .int .i64 m.2.2.2, .slice A l.length c] 29)) 29 #[.string ByteArray.empty, .int .i64 0, .int .i64 0, .int .i64 0, .slice none 0 0])
  go_wp2_with (first
    | (go_at_call 50; refine (cc.out _ (((Below.refl _ _).alloc (Nat.le_refl _) _).alloc (by simp) _)).mono ?_; rintro e w1 ⟨v, rfl, hn, hb1⟩; have hn' := Lib.hid hn; obtain ⟨A1, c1, rfl⟩ := hn.slice; clear hn; have hX := Lib.hid hb1; clear hb1)
    | (go_at_call 54; refine (sortMs_any _ l _ _ hn'.out hl).mono ?_; rintro e w2 ⟨rfl, ⟨A2, c2, h2, hs⟩, hb2⟩;
       have q0 := blk_keep2 hblk0.out hX.out hb2 (by simp; omega); have q1 := blk_keep2 hblk1.out hX.out hb2 (by simp);
       have hY := Lib.hid hb2; clear hb2; have hZ := Lib.hid hs; clear hs; have hE := Lib.hid h2; clear h2;
       have k0 := q0.cell 0; have k1 := q0.cell 1; have k2 := q0.cell 2; have k3 := q0.cell 3;
       have r0 := q1.cell 0; have r1 := q1.cell 1; have r2 := q1.cell 2; have r3 := q1.cell 3; have r4 := q1.cell 4;
       have f0 := q1.free 0; have f1 := q1.free 1; have f2 := q1.free 2; have f3 := q1.free 3; have f4 := q1.free 4;
       clear q0 q1; simp at k0 k1 k2 k3 r0 r1 r2 r3 r4 f0 f1 f2 f3 f4))
  have hEE := hE.out
  injection hEE with e1 e2 e3
  subst e1
  have hB : Below w.heap.size w w2 := (((Below.refl _ _).alloc (Nat.le_refl _) _).alloc (by simp) _).trans ((hX.out.mono (by simp; omega)).trans (hY.out.mono (by simp; omega)))
  have hX2 : w.heap.size + 2 ≤ w2.heap.size := by have h1 := hX.out.size; have h2 := hY.out.size; simp at h1 h2; omega
  refine bodyPost_ret (v := .agg #[.string ⟨m.1.toArray⟩, .int .i64 m.2.1, .int .i64 m.2.2.1, .int .i64 m.2.2.2, .slice A1 l.length c1]) (by simp [results, Tryd.results35, go_sem, r0, r1, r2, r3, r4]) rfl ⟨A1, c1, rfl, ?_, ?_, ?_⟩
  · have hne : msort l = [] ∨ ∀ a, A1 = some a → a.block ≠ w.heap.size + 1 := by
      rcases hn'.out with ⟨rfl, _⟩ | ⟨_, h⟩
      · exact .inl (by simp [msort])
      · rcases h.2 with ⟨h, h'⟩ | ⟨g, cap, cur, h, hg, _⟩
        · exact .inl (List.eq_nil_of_length_eq_zero (by rw [msort_len]; exact h'))
        · refine .inr fun a ha => ?_
          injection h with h
          rw [h] at ha
          injection ha with ha
          subst ha
          simp at hg
          show g ≠ w.heap.size + 1
          omega
    have hsz : ∀ (W : World) p u, (W.setCell p u).heap.size = W.heap.size := fun W p u => by simp [World.setCell]
    simp only [hsz]
    exact ((((hZ.out.setCell _ _ hne).setCell _ _ hne).setCell _ _ hne).setCell _ _ hne).setCell _ _ hne
  · exact ((((hB.setCell (by simp) _).setCell (by simp) _).setCell (by simp) _).setCell (by simp) _).setCell (by simp) _
  · rcases hn'.out with ⟨rfl, _⟩ | ⟨_, h⟩
    · exact .inl rfl
    · rcases h.2 with ⟨_, h'⟩ | ⟨g, cap, cur, h, hg, _⟩
      · exact .inl (List.eq_nil_of_length_eq_zero h')
      · refine .inr fun a ha => ?_
        injection h with h
        rw [h] at ha
        injection ha with ha
        subst ha
        simp at hg
        show w.heap.size ≤ g
        omega
theorem sorted_any (m : Mod) (A : Option Addr) (c : Nat) (l : List Mod) (w : World) (hA : Sl w w.heap.size 4 encM A l) (hl : l.length ≤ 1099511627776) :
    Calls Tryd.prog 35 #[.agg #[.string ⟨m.1.toArray⟩, .int .i64 m.2.1, .int .i64 m.2.2.1, .int .i64 m.2.2.2, .slice A l.length c]] w fun e w' =>
      ∃ A' c', e = .returned (.agg #[.string ⟨m.1.toArray⟩, .int .i64 m.2.1, .int .i64 m.2.2.1, .int .i64 m.2.2.2, .slice A' l.length c']) ∧ Sl w' w'.heap.size 4 encM A' (msort l) ∧ Below w.heap.size w w' :=
  (sorted_far m A c l w hA hl).mono fun _ _ ⟨A', c', h1, h2, h3, _⟩ => ⟨A', c', h1, h2, h3⟩
end Go.Proofs.YtfiilbdkhelhgaaDoor

namespace Go.Proofs.YtfiilbdkhelhgaaDoor
open Go.RowKit Go.Sort

theorem own_of_sl {α : Type} {enc : α → List Value} {w : World} {base B g cap k : Nat} {e : TypeId} {cur : Array Value} {l : List α} (hk : ∀ x, (enc x).length = k) (hb : base ≤ g) (hh : w.heap[g]? = some (.cells cur e (0, 0))) (hn : l.length ≤ cap) (hc : cap ≤ maxLen)
    (hs : cur.size = cap * k) (hS : Sl w B k enc (some ⟨g, 0, none⟩) l) : w.ownsRow base e k (.slice (some ⟨g, 0, none⟩) l.length cap) l.length (l.flatMap enc) := by
  refine ⟨flat_len hk l, .inr ⟨g, cap, cur, rfl, hb, hh, hn, hc, hs, ?_⟩⟩
  apply List.ext_getElem?
  intro i
  rw [List.getElem?_take]
  split
  · rename_i hi
    obtain ⟨h1, h2, h3⟩ := flat_split hi
    obtain ⟨b, off, e1, _, hc1⟩ := hS.at_ h1
    injection e1 with e1
    injection e1 with e1 e2
    subst e1 e2
    have hf := flat_at hk l _ h1 _ h2
    rw [← h3] at hf
    rw [hf]
    have hlt : i % k < (enc l[i / k]).length := by rw [hk]; exact h2
    rw [List.getElem?_eq_getElem hlt]
    have h4 := hc1 (i % k) _ (List.getElem?_eq_getElem hlt)
    rw [Nat.zero_add, ← h3, cell_of_row w g i cur e (0, 0) hh] at h4
    simpa using h4
  · rename_i hi
    rw [List.getElem?_eq_none (by rw [flat_len hk]; omega)]

/-- modules in new memory are sorted in place: the row is the call's own still -/
theorem sortM_own (v : Value) (l : List Mod) (w : World) (base : Nat) (h : w.ownsRow base 26 4 v l.length (l.flatMap encM)) (hv : v ≠ .slice none 0 0) (hl : l.length ≤ 1099511627776) :
    Calls Tryd.prog 54 #[v, .func (.func 34) #[] #[]] w fun e w' => e = .returned (.tuple #[]) ∧ w'.ownsRow base 26 4 v l.length ((msort l).flatMap encM) ∧ Below base w w' := by
  rcases h.2 with ⟨rfl, _⟩ | ⟨g0, cap0, cur, rfl, _, hh, hnc, hcm, hcs, _⟩
  · exact absurd rfl hv
  obtain ⟨g, cap, hge, hbase, hlt, hH⟩ := holdsK_of_owns encM_len h hv
  injection hge with e1 e2 e3
  injection e1 with e1
  injection e1 with e1
  subst e1 e3
  refine (AnyQ.slices_SortFunc_total Tryd.sortM 4 Tryd.isAgg26 Tryd.sizeOf26 encM encM_len encM_one1 mcmp mlt_swo 34 #[] g0 0 cap0 l.toArray w (enters_of Tryd.func34 (by kernel_rfl) rfl)
    (fun m os dk _ x y => (mCompare_any x.1 y.1 x.2.1 x.2.2.1 x.2.2.2 y.2.1 y.2.2.1 y.2.2.2 _).mono fun e w' ⟨h1, h2⟩ => ⟨h1, grow_of_belowD h2⟩) hH hlt (by simp; omega) mlt_total).mono ?_
  rintro e w' ⟨rfl, n, os, rfl⟩
  refine ⟨rfl, ?_, below_sortWorldK hbase hlt⟩
  have hz := size_sortWorldK_c encM 4 w g0 0 n ((msort l).toArray) os
  have hS := sl_of_holdsK encM_len (holdsK_sortWorldK_c encM 4 w g0 0 l.toArray (msort l).toArray n os hH hlt (by simp [msort_len])) (Nat.lt_of_lt_of_le hlt hz)
  have hhp : (sortWorldK encM 4 w g0 0 n (msort l).toArray os).heap[g0]? = some (.cells (putCells id 0 (flatK encM 4 (msort l).toArray) cur) 26 (0, 0)) := by
    unfold sortWorldK
    rw [heap_grow_old _ _ (by rw [size_putRowK]; exact hlt)]
    unfold putRowK putRow mapBlock
    simp only [Array.getElem?_modify]
    rw [if_pos trivial]
    show (w.heap[g0]?).map _ = _
    rw [hh]
    rfl
  have h := own_of_sl encM_len hbase hhp (by rw [msort_len]; exact hnc) hcm (by simp [putCells, hcs]) hS
  rw [msort_len] at h
  exact h
theorem own_less {w : World} {base base' e size n : Nat} {v : Value} {xs : List Value} (h : w.ownsRow base e size v n xs) (hb : base' ≤ base) : w.ownsRow base' e size v n xs := by
  refine ⟨h.1, ?_⟩
  rcases h.2 with h | ⟨g, cap, cur, h1, h2, h3⟩
  · exact .inl h
  · exact .inr ⟨g, cap, cur, h1, Nat.le_trans hb h2, h3⟩
theorem grown_set (W : World) (p : Addr) (v : Value) : W.grownBy (W.setCell p v) (some p.block) := ⟨rfl, rfl, rfl, by simp [World.setCell], fun k _ hk => Below.heap_setCell W p v k (fun e => hk (by rw [e]))⟩
theorem own_apart {W : World} {base e size n : Nat} {v : Value} {xs : List Value} (h : W.ownsRow base e size v n xs) {b : Nat} (hb : b < base) : v.ownBlock ≠ some b := fun e => by have := (h.lt _ e).1; omega
theorem own_set {W : World} {base e size n : Nat} {v : Value} {xs : List Value} (h : W.ownsRow base e size v n xs) {p : Addr} (hb : p.block < base) (u : Value) : (W.setCell p u).ownsRow base e size v n xs := h.kept (grown_set W p u) (.inr (own_apart h hb))

set_option maxRecDepth 100000 in
set_option maxHeartbeats 2000000 in
theorem sorted_own (m : Mod) (A : Option Addr) (c : Nat) (l : List Mod) (w : World) (hA : Sl w w.heap.size 4 encM A l) (hl : l.length ≤ 1099511627776) (hne : l ≠ []) :
    Calls Tryd.prog 35 #[.agg #[.string ⟨m.1.toArray⟩, .int .i64 m.2.1, .int .i64 m.2.2.1, .int .i64 m.2.2.2, .slice A l.length c]] w fun e w' =>
      ∃ A' c', e = .returned (.agg #[.string ⟨m.1.toArray⟩, .int .i64 m.2.1, .int .i64 m.2.2.1, .int .i64 m.2.2.2, .slice A' l.length c']) ∧ w'.ownsRow w.heap.size 26 4 (.slice A' l.length c') l.length ((msort l).flatMap encM) ∧ Below w.heap.size w w' := by
  have cc := Lib.hid (fun (W : World) (hW : Below w.heap.size w W) => cloneM_any A c l W ((hA.below hW).more hW.size) hl)
  have HNE := Lib.hid hne
  clear hA hne
  go_enter Tryd.func35, Tryd.ntmps35
  have hblk0 := Lib.hid ((Blk.new w 29 #[.string ⟨m.1.toArray⟩, .int .i64 m.2.1, .int .i64 m.2.2.1, .int .i64 m.2.2.2, .slice A l.length c]).keep ((Below.refl _ _).alloc (Nat.le_refl _) (.cells #[.string ByteArray.empty, .int .i64 0, .int .i64 0, .int .i64 0, .slice none 0 0] 29)))
  have hblk1 := Lib.hid (Blk.new (w.alloc (.cells #[.string ⟨m.1.toArray⟩, .int .i64 m.2.1, .int .i64 m.2.2.1, .int .i64 m.2.2.2, .slice A l.length c] 29)) 29 #[.string ByteArray.empty, .int .i64 0, .int .i64 0, .int .i64 0, .slice none 0 0])
  go_wp2_with (first
    | (go_at_call 50; refine (cc.out _ (((Below.refl _ _).alloc (Nat.le_refl _) _).alloc (by simp) _)).mono ?_; rintro e w1 ⟨v, rfl, hn, hb1⟩; have hn' := Lib.hid (hn.resolve_left (fun h => HNE.out h.1)); obtain ⟨A1, c1, rfl⟩ := hn.slice; clear hn; have hX := Lib.hid hb1; clear hb1)
    | (go_at_call 54; refine (sortM_own _ l _ _ hn'.out.2 hn'.out.1 hl).mono ?_; rintro e w2 ⟨rfl, hs, hb2⟩;
       have q0 := blk_keep2 hblk0.out hX.out hb2 (by simp; omega); have q1 := blk_keep2 hblk1.out hX.out hb2 (by simp);
       have hY := Lib.hid hb2; clear hb2; have hZ := Lib.hid hs; clear hs;
       have k0 := q0.cell 0; have k1 := q0.cell 1; have k2 := q0.cell 2; have k3 := q0.cell 3;
       have r0 := q1.cell 0; have r1 := q1.cell 1; have r2 := q1.cell 2; have r3 := q1.cell 3; have r4 := q1.cell 4;
       have f0 := q1.free 0; have f1 := q1.free 1; have f2 := q1.free 2; have f3 := q1.free 3; have f4 := q1.free 4;
       clear q0 q1; simp at k0 k1 k2 k3 r0 r1 r2 r3 r4 f0 f1 f2 f3 f4))
  have hB : Below w.heap.size w w2 := (((Below.refl _ _).alloc (Nat.le_refl _) _).alloc (by simp) _).trans ((hX.out.mono (by simp; omega)).trans (hY.out.mono (by simp; omega)))
  have hX2 : w.heap.size + 2 ≤ w2.heap.size := by have h1 := hX.out.size; have h2 := hY.out.size; simp at h1 h2; omega
  refine bodyPost_ret (v := .agg #[.string ⟨m.1.toArray⟩, .int .i64 m.2.1, .int .i64 m.2.2.1, .int .i64 m.2.2.2, .slice A1 l.length c1]) (by simp [results, Tryd.results35, go_sem, r0, r1, r2, r3, r4]) rfl ⟨A1, c1, rfl, ?_, ?_⟩
  · have h := hZ.out
    have hb : w.heap.size + 1 < ((w.alloc (.cells #[.string ⟨m.1.toArray⟩, .int .i64 m.2.1, .int .i64 m.2.2.1, .int .i64 m.2.2.2, .slice A l.length c] 29)).alloc (.cells #[.string ByteArray.empty, .int .i64 0, .int .i64 0, .int .i64 0, .slice none 0 0] 29)).heap.size := by simp
    exact own_less (own_set (own_set (own_set (own_set (own_set h (p := ⟨w.heap.size + 1, 0, none⟩) hb _) (p := ⟨w.heap.size + 1, 1, none⟩) hb _) (p := ⟨w.heap.size + 1, 2, none⟩) hb _) (p := ⟨w.heap.size + 1, 3, none⟩) hb _) (p := ⟨w.heap.size + 1, 4, none⟩) hb _) (by simp; omega)
  · exact ((((hB.setCell (by simp) _).setCell (by simp) _).setCell (by simp) _).setCell (by simp) _).setCell (by simp) _
end Go.Proofs.YtfiilbdkhelhgaaDoor

namespace Go.Proofs.YtfiilbdkhelhgaaDoor
open Go.RowKit Go.Sort

theorem pathOk_len (p : List UInt8) (h : pathOk p = true) : p.length ≤ 60 := by
  simp [pathOk] at h; exact h.1
theorem mcheck_ok (m : Mod) (l : List Mod) (h : mcheck m l = 0) : l.length ≤ 64 ∧ ∀ x ∈ m :: l, x.1.length ≤ 60 := by
  unfold mcheck at h
  split at h
  · omega
  · rename_i h1
    split at h
    · omega
    · split at h
      · omega
      · split at h
        · omega
        · refine ⟨by omega, fun x hx => pathOk_len _ ?_⟩
          have : ¬ badPath x = true := fun hb => h1 (List.any_eq_true.2 ⟨x, hx, hb⟩)
          simpa [badPath] using this
end Go.Proofs.YtfiilbdkhelhgaaDoor

namespace Go.Proofs.YtfiilbdkhelhgaaDoor
open Go.RowKit Go.Sort

section
variable {α : Type} {lt : α → α → Bool}
/-- not greater -/
def leOf (lt : α → α → Bool) (a b : α) : Prop := lt b a = false
theorem le_of_lt (hO : SWO lt) {a b : α} (h : lt a b = true) : leOf lt a b := by
  unfold leOf
  cases hb : lt b a
  · rfl
  · have := hO.trans a b a h hb
    rw [hO.irrefl] at this; cases this
theorem le_trans_of (hO : SWO lt) {a b c : α} (h1 : leOf lt a b) (h2 : leOf lt b c) : leOf lt a c := hO.ntrans c b a h2 h1
theorem le_refl_of (hO : SWO lt) (a : α) : leOf lt a a := hO.irrefl a
theorem ins_sorted (hO : SWO lt) (P : List α) (x : α) (k : Nat) (hkl : k ≤ P.length) (hs : P.Pairwise (leOf lt)) (h1 : ∀ i, i + 1 = k → ∀ h : i < P.length, lt x P[i] = false) (h2 : ∀ i, k ≤ i → ∀ h : i < P.length, lt x P[i] = true) :
    (P.take k ++ x :: P.drop k).Pairwise (leOf lt) := by
  have hsplit : (P.take k ++ P.drop k).Pairwise (leOf lt) := by rw [List.take_append_drop]; exact hs
  rw [List.pairwise_append] at hsplit ⊢
  obtain ⟨ha, hb, hc⟩ := hsplit
  have hx : ∀ a ∈ P.take k, leOf lt a x := by
    intro a hm
    obtain ⟨i, hi, rfl⟩ := List.mem_take_iff_getElem.1 hm
    have hk : k - 1 < P.length ∨ P.length ≤ k - 1 := by omega
    rcases hk with hk | hk
    · have hlast : leOf lt P[k - 1] x := h1 (k - 1) (by omega) hk
      rcases (show i = k - 1 ∨ i < k - 1 by omega) with rfl | hlt
      · exact hlast
      · exact le_trans_of hO (List.pairwise_iff_getElem.1 hs i (k - 1) (by omega) hk hlt) hlast
    · exfalso; omega
  refine ⟨ha, ?_, ?_⟩
  · rw [List.pairwise_cons]
    refine ⟨fun y hy => ?_, hb⟩
    obtain ⟨i, hi, rfl⟩ := List.getElem_of_mem hy
    rw [List.getElem_drop]
    exact le_of_lt hO (h2 (k + i) (by omega) (by simp at hi; omega))
  · intro a hm b hb'
    rcases List.mem_cons.1 hb' with rfl | hb'
    · exact hx a hm
    · exact hc a hm b hb'
theorem ins_perm (P Q : List α) (x : α) (k : Nat) (h : P.Perm Q) : (P.take k ++ x :: P.drop k).Perm (Q ++ [x]) := by
  have h1 : (P.take k ++ x :: P.drop k).Perm (x :: (P.take k ++ P.drop k)) := List.perm_middle
  rw [List.take_append_drop] at h1
  exact h1.trans ((List.Perm.cons x h).trans (List.perm_append_singleton x Q).symm)
theorem sorted_eq (hO : SWO lt) (hT : ∀ x y, lt x y = false → lt y x = false → x = y) (P l : List α) (hs : P.Pairwise (leOf lt)) (hp : P.Perm l) : P = l.mergeSort fun x y => !lt y x := by
  have htr : ∀ a b c : α, (!lt b a) = true → (!lt c b) = true → (!lt c a) = true := fun a b c h1 h2 => by
    simp at *; exact hO.ntrans c b a h2 h1
  have hto : ∀ a b : α, ((!lt b a) || (!lt a b)) = true := fun a b => by
    cases hab : lt a b
    · simp
    · have := le_of_lt hO hab
      unfold leOf at this
      simp [this]
  have h2 := List.pairwise_mergeSort htr hto l
  refine List.Perm.eq_of_pairwise (le := leOf lt) (fun a b _ _ h1 h2 => (hT a b h2 h1)) hs (h2.imp (fun h => by simpa [leOf] using h)) (hp.trans (List.mergeSort_perm l _).symm)
end
end Go.Proofs.YtfiilbdkhelhgaaDoor

namespace Go.Proofs.YtfiilbdkhelhgaaDoor
open Go.RowKit Go.Sort

theorem splitL_join (b : List UInt8) : ∀ a : List UInt8, splitL 47 (a ++ 47 :: b) = splitL 47 a ++ splitL 47 b
  | [] => by simp [splitL]
  | c :: a => by
    have ih := splitL_join b a
    have hne : splitL 47 a ≠ [] := by
      cases a with
      | nil => simp [splitL]
      | cons d a =>
        unfold splitL
        split
        · simp
        · split <;> simp
    by_cases hc : c = 47
    · simp [splitL, hc, ih]
    · obtain ⟨h, t, he⟩ := List.exists_cons_of_ne_nil hne
      simp [splitL, hc, ih, he]
theorem pathOk_join (a b : List UInt8) : pathOk (a ++ [47] ++ b) = (pathOk a && (pathOk b && decide (a.length + b.length < 60))) := by
  have e : a ++ [47] ++ b = a ++ 47 :: b := by simp
  unfold pathOk
  rw [e, splitL_join, List.all_append]
  have hl : (a ++ 47 :: b).length = a.length + b.length + 1 := by simp; omega
  rw [hl]
  by_cases h : a.length + b.length < 60
  · rw [decide_eq_true (show a.length + b.length + 1 ≤ 60 by omega), decide_eq_true (show a.length ≤ 60 by omega), decide_eq_true (show b.length ≤ 60 by omega), decide_eq_true h]
    simp
  · rw [decide_eq_false (show ¬ a.length + b.length + 1 ≤ 60 by omega), decide_eq_false h]
    simp
theorem vcmp_anti (x y z x' y' z' : Int) : vcmp x y z x' y' z' = - vcmp x' y' z' x y z := by
  unfold vcmp
  repeat' split
  all_goals omega
theorem mcmp_anti (m n : Mod) : mcmp m n = - mcmp n m := by
  unfold mcmp
  by_cases h1 : Op.bytesLess m.1 n.1 = true
  · rw [if_pos h1, if_neg (by rw [bl_asymm _ _ h1]; simp), if_neg (fun e => by rw [e, bl_irrefl] at h1; cases h1)]
  · by_cases h2 : m.1 = n.1
    · rw [if_neg h1, if_pos h2, if_neg (by rw [h2, bl_irrefl]; simp), if_pos h2.symm]
      exact vcmp_anti _ _ _ _ _ _
    · have h3 : Op.bytesLess n.1 m.1 = true := by
        cases hb : Op.bytesLess n.1 m.1
        · exact absurd (bl_total _ _ (Bool.eq_false_iff.2 h1) hb) h2
        · rfl
      rw [if_neg h1, if_neg h2, if_pos h3]
      rfl
theorem mcmp_range (m n : Mod) : mcmp m n = -1 ∨ mcmp m n = 0 ∨ mcmp m n = 1 := by
  unfold mcmp
  repeat' split
  · simp
  · exact vcmp_range _ _ _ _ _ _
  · simp
theorem ltM_false {m n : Mod} (h : 0 ≤ mcmp m n) : ltOf mcmp m n = false := by
  unfold ltOf
  exact decide_eq_false (by omega)
theorem mcmp_law (a b c : Mod) (hx : mcmp a b ≤ 0) (hy : mcmp b c ≤ 0) : mcmp a c ≤ 0 ∧ (mcmp a c = 0 → mcmp a b = 0 ∧ mcmp b c = 0) := by
  have h1 := mcmp_anti a b
  have h2 := mcmp_anti b c
  have h3 := mcmp_anti a c
  have k1 : ltOf mcmp b a = false := ltM_false (by omega)
  have k2 : ltOf mcmp c b = false := ltM_false (by omega)
  have k3 := mlt_swo.ntrans c b a k2 k1
  have k4 : 0 ≤ mcmp c a := by
    unfold ltOf at k3
    have := of_decide_eq_false k3
    omega
  refine ⟨by omega, fun h => ?_⟩
  obtain rfl := (mcmp_eq a c).1 h
  omega
end Go.Proofs.YtfiilbdkhelhgaaDoor

namespace Go.Proofs.YtfiilbdkhelhgaaDoor
open Go.RowKit Go.Sort

/-- a registry: manifests as modules and what they require -/
abbrev Regy := List (Mod × List Mod)
/-- the first error of the manifests -/
def firstBad : Regy → Int
  | [] => 0
  | x :: r => if mcheck x.1 x.2 = 0 then firstBad r else mcheck x.1 x.2
theorem firstBad_hit : ∀ (R : Regy) (k : Nat) (hk : k < R.length), firstBad (R.take k) = 0 → mcheck R[k].1 R[k].2 ≠ 0 → firstBad R = mcheck R[k].1 R[k].2
  | [], k, hk, _, _ => by simp at hk
  | x :: r, 0, _, _, h => by
    unfold firstBad
    exact if_neg h
  | x :: r, k + 1, hk, h0, h => by
    rw [List.take_succ_cons] at h0
    unfold firstBad at h0 ⊢
    split at h0
    · rename_i hx
      rw [if_pos hx]
      exact firstBad_hit r k (by simpa using hk) h0 h
    · rename_i hx
      exact absurd h0 hx
theorem firstBad_step (R : Regy) (k : Nat) (hk : k < R.length) (h0 : firstBad (R.take k) = 0) (h : mcheck R[k].1 R[k].2 = 0) : firstBad (R.take (k + 1)) = 0 := by
  rw [List.take_succ_eq_append_getElem hk]
  generalize R[k] = x at h
  generalize R.take k = L at h0
  clear hk
  induction L with
  | nil => simp [firstBad, h]
  | cons y L ih =>
    rw [List.cons_append]
    unfold firstBad at h0 ⊢
    split at h0
    · rename_i hy
      rw [if_pos hy]
      exact ih h0
    · rename_i hy
      exact absurd h0 hy
/-- is there a module twice? -/
def dupR (R : Regy) : Bool := !decide ((R.map (·.1)).Nodup)
theorem dupR_step (R : Regy) (k : Nat) (hk : k < R.length) : dupR (R.take (k + 1)) = (dupR (R.take k) || decide (R[k].1 ∈ (R.take k).map (·.1))) := by
  rw [List.take_succ_eq_append_getElem hk]
  generalize R[k] = x
  generalize R.take k = L
  unfold dupR
  rw [List.map_append, Bool.eq_iff_iff]
  simp only [Bool.not_eq_true', decide_eq_false_iff_not, Bool.or_eq_true, decide_eq_true_eq, List.map_cons, List.map_nil]
  rw [List.nodup_append]
  constructor
  · intro h
    by_cases h1 : (L.map (·.1)).Nodup
    · right
      refine Classical.byContradiction fun h2 => h ⟨h1, by simp, fun a ha b hb => ?_⟩
      obtain rfl : b = x.1 := by simpa using hb
      exact fun e => h2 (e ▸ ha)
    · exact .inl h1
  · rintro (h | h) ⟨h1, _, h3⟩
    · exact h h1
    · exact h3 _ h _ (by simp) rfl
/-- the first error of a registry -/
def checkR (R : Regy) : Int := if firstBad R = 0 then (if dupR R = true then 6 else 0) else firstBad R
theorem checkR_ok {R : Regy} (h : checkR R = 0) : firstBad R = 0 ∧ (R.map (·.1)).Nodup := by
  unfold checkR at h
  split at h
  · rename_i h0
    split at h
    · omega
    · rename_i hd
      exact ⟨h0, by simpa [dupR] using hd⟩
  · rename_i h0
    exact absurd h h0
end Go.Proofs.YtfiilbdkhelhgaaDoor

namespace Go.Proofs.YtfiilbdkhelhgaaDoor
open Go.RowKit Go.Sort

theorem nodup_len {α : Type} [DecidableEq α] : ∀ (S U : List α), S.Nodup → (∀ x ∈ S, x ∈ U) → S.length ≤ U.length
  | [], _, _, _ => Nat.zero_le _
  | x :: S, U, hn, hs => by
    obtain ⟨h1, h2⟩ := List.nodup_cons.1 hn
    have hx := hs x (by simp)
    have ih := nodup_len S (U.erase x) h2 fun y hy => (List.mem_erase_of_ne (fun (e : y = x) => h1 (by rw [← e]; exact hy))).2 (hs y (by simp [hy]))
    rw [List.length_erase_of_mem hx] at ih
    have := List.length_pos_of_mem hx
    simp only [List.length_cons]
    omega
/-- what the manifest of a module requires -/
def reqOf (R : Regy) (m : Mod) : List Mod := ((R.find? fun x => decide (x.1 = m)).map (·.2)).getD []
/-- is a module in the registry? -/
def hasR (R : Regy) (m : Mod) : Bool := R.any fun x => decide (x.1 = m)
theorem reqOf_mem {R : Regy} {x m : Mod} (h : m ∈ reqOf R x) : m ∈ R.flatMap (·.2) := by
  unfold reqOf at h
  cases hf : R.find? fun y => decide (y.1 = x) with
  | none => rw [hf] at h; simp at h
  | some y =>
    rw [hf] at h
    exact List.mem_flatMap.2 ⟨y, List.mem_of_find?_eq_some hf, h⟩
/-- needed modules -/
inductive Reach (R : Regy) (l : List Mod) : Mod → Prop
  | base {m : Mod} : m ∈ l → Reach R l m
  | step {x m : Mod} : Reach R l x → m ∈ reqOf R x → Reach R l m
def univ (R : Regy) (l : List Mod) : List Mod := l ++ R.flatMap (·.2)
theorem Reach.univ {R : Regy} {l : List Mod} {m : Mod} (h : Reach R l m) : m ∈ univ R l := by
  cases h with
  | base h => exact List.mem_append_left _ h
  | step _ h => exact List.mem_append_right _ (reqOf_mem h)
theorem univ_len (R : Regy) (l : List Mod) (hR : R.length ≤ 100) (hq : ∀ x ∈ R, x.2.length ≤ 100) : (univ R l).length ≤ l.length + 10000 := by
  have h : ∀ L : Regy, (∀ x ∈ L, x.2.length ≤ 100) → (L.flatMap (·.2)).length ≤ 100 * L.length := fun L hL => by
    induction L with
    | nil => simp
    | cons x L ih =>
      have h1 := hL x (by simp)
      have h2 := ih fun y hy => hL y (by simp [hy])
      simp only [List.flatMap_cons, List.length_append, List.length_cons]
      omega
  have := h R hq
  unfold univ
  rw [List.length_append]
  omega
/-- what a search keeps: S is done, T is to do -/
structure Needs (R : Regy) (l S T : List Mod) : Prop where
  nodup : S.Nodup
  done : ∀ m ∈ S, Reach R l m
  todo : ∀ m ∈ T, Reach R l m
  base : ∀ m ∈ l, m ∈ S ∨ m ∈ T
  clos : ∀ x ∈ S, ∀ m ∈ reqOf R x, m ∈ S ∨ m ∈ T
theorem Needs.start (R : Regy) (l : List Mod) : Needs R l [] l := ⟨List.nodup_nil, by simp, fun m h => .base h, fun m h => .inr h, by simp⟩
theorem Needs.old {R : Regy} {l S T : List Mod} {m : Mod} (h : Needs R l S (T ++ [m])) (hm : m ∈ S) : Needs R l S T :=
  ⟨h.nodup, h.done, fun x hx => h.todo x (by simp [hx]), fun x hx => by
    rcases h.base x hx with h1 | h1
    · exact .inl h1
    · rcases List.mem_append.1 h1 with h2 | h2
      · exact .inr h2
      · obtain rfl : x = m := by simpa using h2
        exact .inl hm, fun y hy x hx => by
    rcases h.clos y hy x hx with h1 | h1
    · exact .inl h1
    · rcases List.mem_append.1 h1 with h2 | h2
      · exact .inr h2
      · obtain rfl : x = m := by simpa using h2
        exact .inl hm⟩
theorem Needs.new {R : Regy} {l S T : List Mod} {m : Mod} (h : Needs R l S (T ++ [m])) (hm : m ∉ S) : Needs R l (S ++ [m]) (T ++ reqOf R m) := by
  have hr := h.todo m (by simp)
  have old : ∀ x, x ∈ S ∨ x ∈ T ++ [m] → x ∈ S ++ [m] ∨ x ∈ T ++ reqOf R m := fun x hx => by
    rcases hx with h1 | h1
    · exact .inl (by simp [h1])
    · rcases List.mem_append.1 h1 with h2 | h2
      · exact .inr (by simp [h2])
      · exact .inl (by simp [h2])
  refine ⟨?_, ?_, ?_, fun x hx => old x (h.base x hx), ?_⟩
  · rw [List.nodup_append]
    exact ⟨h.nodup, by simp, fun a ha b hb e => hm (by simp at hb; rw [← hb, ← e]; exact ha)⟩
  · intro x hx
    rcases List.mem_append.1 hx with h1 | h1
    · exact h.done x h1
    · obtain rfl : x = m := by simpa using h1
      exact hr
  · intro x hx
    rcases List.mem_append.1 hx with h1 | h1
    · exact h.todo x (by simp [h1])
    · exact .step hr h1
  · intro y hy x hx
    rcases List.mem_append.1 hy with h1 | h1
    · exact old x (h.clos y h1 x hx)
    · obtain rfl : y = m := by simpa using h1
      exact .inr (by simp [hx])
theorem Needs.len {R : Regy} {l S T : List Mod} (h : Needs R l S T) : S.length ≤ (univ R l).length := nodup_len S _ h.nodup fun x hx => (h.done x hx).univ
theorem Needs.fin {R : Regy} {l S : List Mod} (h : Needs R l S []) (m : Mod) : m ∈ S ↔ Reach R l m := by
  refine ⟨h.done m, fun hr => ?_⟩
  induction hr with
  | base hm => rcases h.base _ hm with h1 | h1
               · exact h1
               · simp at h1
  | step _ hm ih => rcases h.clos _ ih _ hm with h1 | h1
                    · exact h1
                    · simp at h1
end Go.Proofs.YtfiilbdkhelhgaaDoor

namespace Go.Proofs.YtfiilbdkhelhgaaDoor
open Go.RowKit Go.Sort

abbrev Ver3 := Int × Int × Int
def vcmpV (a b : Ver3) : Int := vcmp a.1 a.2.1 a.2.2 b.1 b.2.1 b.2.2
theorem vcmpV_refl (a : Ver3) : vcmpV a a = 0 := by simp [vcmpV, vcmp]
theorem vcmpV_mcmp (p : List UInt8) (a b : Ver3) : mcmp (p, a) (p, b) = vcmpV a b := by
  unfold mcmp vcmpV
  simp [bl_irrefl]
theorem vcmpV_eq {a b : Ver3} (h : vcmpV a b = 0) : a = b := by
  have := (mcmp_eq ([], a) ([], b)).1 (by rw [vcmpV_mcmp]; exact h)
  injection this
theorem vcmpV_anti (a b : Ver3) : vcmpV a b = - vcmpV b a := by rw [← vcmpV_mcmp [], ← vcmpV_mcmp [], mcmp_anti]
theorem vcmpV_trans {a b c : Ver3} (h1 : vcmpV a b ≤ 0) (h2 : vcmpV b c ≤ 0) : vcmpV a c ≤ 0 := by
  rw [← vcmpV_mcmp []] at *
  exact (mcmp_law _ _ _ h1 h2).1
theorem snoc_ind {α : Type} {P : List α → Prop} (h0 : P []) (h1 : ∀ l x, P l → P (l ++ [x])) (l : List α) : P l := by
  rw [← List.reverse_reverse l]
  induction l.reverse with
  | nil => exact h0
  | cons x r ih => rw [List.reverse_cons]; exact h1 _ _ ih
/-- the greatest version of a path other than rp -/
def bestV (rp : List UInt8) (V : List Mod) (p : List UInt8) : Option Ver3 :=
  V.foldl (fun o m => if m.1 = p ∧ p ≠ rp then (match o with | none => some m.2 | some v => if 0 < vcmpV m.2 v then some m.2 else some v) else o) none
theorem bestV_snoc (rp : List UInt8) (V : List Mod) (m : Mod) (p : List UInt8) : bestV rp (V ++ [m]) p = if m.1 = p ∧ p ≠ rp then (match bestV rp V p with | none => some m.2 | some v => if 0 < vcmpV m.2 v then some m.2 else some v) else bestV rp V p := by
  unfold bestV
  rw [List.foldl_append]
  rfl
theorem bestV_spec (rp : List UInt8) (p : List UInt8) : ∀ V : List Mod, (∀ v, bestV rp V p = some v → p ≠ rp ∧ (p, v) ∈ V ∧ ∀ m ∈ V, m.1 = p → vcmpV m.2 v ≤ 0) ∧ (bestV rp V p = none → p = rp ∨ ∀ m ∈ V, m.1 ≠ p) := by
  intro V
  induction V using snoc_ind with
  | h0 => exact ⟨fun v h => by simp [bestV] at h, fun _ => .inr (by simp)⟩
  | h1 V m ih =>
    rw [bestV_snoc]
    by_cases hc : m.1 = p ∧ p ≠ rp
    · rw [if_pos hc]
      obtain ⟨hm, hp⟩ := hc
      cases hb : bestV rp V p with
      | none =>
        refine ⟨fun v h => ?_, fun h => by simp at h⟩
        obtain rfl : m.2 = v := by simpa using h
        refine ⟨hp, by rw [← hm]; simp, fun x hx hxp => ?_⟩
        rcases List.mem_append.1 hx with h1 | h1
        · rcases ih.2 hb with h2 | h2
          · exact absurd h2 hp
          · exact absurd hxp (h2 x h1)
        · obtain rfl : x = m := by simpa using h1
          rw [vcmpV_refl]
          exact Int.le_refl _
      | some u =>
        obtain ⟨_, h2, h3⟩ := ih.1 u hb
        simp only
        by_cases hlt : 0 < vcmpV m.2 u
        · rw [if_pos hlt]
          refine ⟨fun v h => ?_, fun h => by simp at h⟩
          obtain rfl : m.2 = v := by simpa using h
          refine ⟨hp, by rw [← hm]; simp, fun x hx hxp => ?_⟩
          rcases List.mem_append.1 hx with h1 | h1
          · have h4 := vcmpV_anti m.2 u
            exact vcmpV_trans (h3 x h1 hxp) (by omega)
          · obtain rfl : x = m := by simpa using h1
            rw [vcmpV_refl]
            exact Int.le_refl _
        · rw [if_neg hlt]
          refine ⟨fun v h => ?_, fun h => by simp at h⟩
          obtain rfl : u = v := by simpa using h
          refine ⟨hp, by simp [h2], fun x hx hxp => ?_⟩
          rcases List.mem_append.1 hx with h1 | h1
          · exact h3 x h1 hxp
          · obtain rfl : x = m := by simpa using h1
            omega
    · rw [if_neg hc]
      refine ⟨fun v h => ?_, fun h => ?_⟩
      · obtain ⟨h1, h2, h3⟩ := ih.1 v h
        refine ⟨h1, by simp [h2], fun x hx hxp => ?_⟩
        rcases List.mem_append.1 hx with h4 | h4
        · exact h3 x h4 hxp
        · obtain rfl : x = m := by simpa using h4
          exact absurd ⟨hxp, h1⟩ hc
      · rcases ih.2 h with h1 | h1
        · exact .inl h1
        · by_cases hp : p = rp
          · exact .inl hp
          · refine .inr fun x hx => ?_
            rcases List.mem_append.1 hx with h4 | h4
            · exact h1 x h4
            · obtain rfl : x = m := by simpa using h4
              exact fun e => hc ⟨e, hp⟩
theorem bestV_iff (rp : List UInt8) (V : List Mod) (p : List UInt8) (v : Ver3) : bestV rp V p = some v ↔ p ≠ rp ∧ (p, v) ∈ V ∧ ∀ m ∈ V, m.1 = p → vcmpV m.2 v ≤ 0 := by
  refine ⟨(bestV_spec rp p V).1 v, fun ⟨h1, h2, h3⟩ => ?_⟩
  cases hb : bestV rp V p with
  | none =>
    rcases (bestV_spec rp p V).2 hb with h | h
    · exact absurd h h1
    · exact absurd rfl (h _ h2)
  | some u =>
    obtain ⟨_, h5, h6⟩ := (bestV_spec rp p V).1 u hb
    have h7 := h3 (p, u) h5 rfl
    have h8 := h6 (p, v) h2 rfl
    have h9 := vcmpV_anti u v
    simp only at h7 h8
    rw [vcmpV_eq (a := u) (b := v) (by omega)]
/-- the greatest modules of paths other than rp -/
def topL (rp : List UInt8) (S : List Mod) : List Mod := S.filter fun m => decide (m.1 ≠ rp) && S.all fun x => decide (x.1 = m.1 → vcmpV x.2 m.2 ≤ 0)
theorem topL_mem (rp : List UInt8) (S : List Mod) (m : Mod) : m ∈ topL rp S ↔ m ∈ S ∧ m.1 ≠ rp ∧ ∀ x ∈ S, x.1 = m.1 → vcmpV x.2 m.2 ≤ 0 := by
  unfold topL
  rw [List.mem_filter, Bool.and_eq_true, decide_eq_true_eq, List.all_eq_true]
  simp only [decide_eq_true_eq]
theorem topL_nodup (rp : List UInt8) {S : List Mod} (h : S.Nodup) : (topL rp S).Nodup := h.filter _
theorem leMod_of_lt {m n : Mod} (h : m.1 < n.1) : leOf (ltOf mcmp) m n := by
  unfold leOf ltOf
  have : mcmp m n = -1 := by unfold mcmp; rw [if_pos (by rw [bytesLess_eq]; exact decide_eq_true h)]
  have h2 := mcmp_anti n m
  simp
  omega
/-- sorted keys with their versions are the sorted greatest modules -/
theorem keys_top (rp : List UInt8) (V S : List Mod) (K : List (List UInt8)) (hVS : ∀ m, m ∈ V ↔ m ∈ S) (hS : S.Nodup) (hK : K.Nodup) (hKb : ∀ p ∈ K, (bestV rp V p).isSome = true) (hKc : ∀ m ∈ V, (bestV rp V m.1).isSome = true → m.1 ∈ K) :
    (K.mergeSort (fun x y => decide (x ≤ y))).map (fun p => (p, (bestV rp V p).getD (0, 0, 0))) = msort (topL rp S) := by
  have tr : ∀ a b c : List UInt8, decide (a ≤ b) = true → decide (b ≤ c) = true → decide (a ≤ c) = true := fun a b c h1 h2 => by simp only [decide_eq_true_eq] at *; exact List.le_trans h1 h2
  have htot : ∀ a b : List UInt8, (decide (a ≤ b) || decide (b ≤ a)) = true := fun a b => by simp only [Bool.or_eq_true, decide_eq_true_eq]; exact List.le_total a b
  have hsorted := List.pairwise_mergeSort tr htot K
  have hperm := List.mergeSort_perm K (fun x y => decide (x ≤ y))
  have hnd : (K.mergeSort (fun x y => decide (x ≤ y))).Nodup := hperm.nodup_iff.2 hK
  have hmem : ∀ p, p ∈ K.mergeSort (fun x y => decide (x ≤ y)) ↔ p ∈ K := fun p => hperm.mem_iff
  generalize K.mergeSort (fun x y => decide (x ≤ y)) = J at hsorted hnd hmem
  refine sorted_eq mlt_swo mlt_total _ _ ?_ ?_
  · refine List.pairwise_map.2 ((hsorted.and hnd).imp fun {p q} h => ?_)
    refine leMod_of_lt ?_
    have h1 : p ≤ q := of_decide_eq_true h.1
    show p < q
    rcases Decidable.em (p < q) with h2 | h2
    · exact h2
    · exact absurd (List.le_antisymm h1 (by simpa using h2)) h.2
  · refine (List.perm_ext_iff_of_nodup ?_ (topL_nodup rp hS)).2 fun m => ?_
    · refine List.pairwise_map.2 (hnd.imp fun {p q} h e => h (by injection e))
    · rw [topL_mem]
      constructor
      · intro h
        obtain ⟨p, hp, rfl⟩ := List.mem_map.1 h
        have h1 := hKb p ((hmem p).1 hp)
        cases hb : bestV rp V p with
        | none => rw [hb] at h1; cases h1
        | some v =>
          obtain ⟨h2, h3, h4⟩ := (bestV_iff rp V p v).1 hb
          exact ⟨(hVS _).1 h3, h2, fun x hx => h4 x ((hVS x).2 hx)⟩
      · rintro ⟨h1, h2, h3⟩
        have hb := (bestV_iff rp V m.1 m.2).2 ⟨h2, (hVS m).2 h1, fun x hx => h3 x ((hVS x).1 hx)⟩
        exact List.mem_map.2 ⟨m.1, (hmem _).2 (hKc m ((hVS m).2 h1) (by rw [hb]; rfl)), by rw [hb]; rfl⟩
theorem topL_congr (rp : List UInt8) {S S' : List Mod} (h : ∀ m, m ∈ S ↔ m ∈ S') (hS : S.Nodup) (hS' : S'.Nodup) : msort (topL rp S) = msort (topL rp S') := by
  have hp : (topL rp S).Perm (topL rp S') := (List.perm_ext_iff_of_nodup (topL_nodup rp hS) (topL_nodup rp hS')).2 fun m => by
    rw [topL_mem, topL_mem, h m]
    simp only [h]
  have hto : ∀ a b : Mod, ((!(ltOf mcmp) b a) || (!(ltOf mcmp) a b)) = true := fun a b => by
    cases hab : (ltOf mcmp) a b
    · simp
    · have := le_of_lt mlt_swo hab
      unfold leOf at this
      simp [this]
  have htr : ∀ a b c : Mod, (!(ltOf mcmp) b a) = true → (!(ltOf mcmp) c b) = true → (!(ltOf mcmp) c a) = true := fun a b c h1 h2 => by
    simp at *; exact mlt_swo.ntrans c b a h2 h1
  exact sorted_eq mlt_swo mlt_total _ _ ((List.pairwise_mergeSort htr hto _).imp fun {a b} hab => by unfold leOf; simpa using hab) ((List.mergeSort_perm _ _).trans hp)
end Go.Proofs.YtfiilbdkhelhgaaDoor

namespace Go.Proofs.YtfiilbdkhelhgaaDoor
open Go.RowKit Go.Sort

theorem Needs.perm {R : Regy} {l S T T' : List Mod} (h : Needs R l S T) (hT : ∀ x, x ∈ T ↔ x ∈ T') : Needs R l S T' :=
  ⟨h.nodup, h.done, fun m hm => h.todo m ((hT m).2 hm), fun m hm => (h.base m hm).imp id (hT m).1, fun x hx m hm => (h.clos x hx m hm).imp id (hT m).1⟩
def needStep (R : Regy) : Nat → List Mod → List Mod → List Mod
  | 0, S, _ => S
  | _ + 1, S, [] => S
  | n + 1, S, m :: T => if m ∈ S then needStep R n S T else needStep R n (S ++ [m]) (reqOf R m ++ T)
/-- the needed modules -/
def needL (R : Regy) (l : List Mod) : List Mod := needStep R (l.length + (univ R l).length * ((univ R l).length + 1)) [] l
theorem reqOf_len (R : Regy) (l : List Mod) (m : Mod) : (reqOf R m).length ≤ (univ R l).length := by
  have h : ∀ (L : Regy) (y : Mod × List Mod), y ∈ L → y.2.length ≤ (L.flatMap (·.2)).length := fun L y hy => by
    induction L with
    | nil => simp at hy
    | cons x L ih =>
      rw [List.flatMap_cons, List.length_append]
      rcases List.mem_cons.1 hy with rfl | hy
      · omega
      · have := ih hy; omega
  unfold reqOf univ
  rw [List.length_append]
  cases hf : R.find? fun y => decide (y.1 = m) with
  | none => simp
  | some y =>
    have := h R y (List.mem_of_find?_eq_some hf)
    simp only [Option.map_some, Option.getD_some]
    omega
theorem needStep_ok (R : Regy) (l : List Mod) : ∀ (n : Nat) (S T : List Mod), Needs R l S T → T.length + ((univ R l).length - S.length) * ((univ R l).length + 1) ≤ n → Needs R l (needStep R n S T) []
  | 0, S, T, h, hn => by
    obtain rfl : T = [] := List.eq_nil_of_length_eq_zero (by omega)
    exact h
  | n + 1, S, [], h, _ => h
  | n + 1, S, m :: T, h, hn => by
    have h' : Needs R l S (T ++ [m]) := h.perm fun x => by simp [or_comm]
    simp only [List.length_cons] at hn
    unfold needStep
    by_cases hm : m ∈ S
    · rw [if_pos hm]
      exact needStep_ok R l n S T (h'.old hm) (by omega)
    · rw [if_neg hm]
      have h2 := h'.new hm
      have h3 := h2.len
      simp only [List.length_append, List.length_singleton] at h3
      have h4 := reqOf_len R l m
      refine needStep_ok R l n _ _ (h2.perm fun x => by simp [or_comm]) ?_
      simp only [List.length_append, List.length_singleton]
      obtain ⟨d, hd⟩ : ∃ d, (univ R l).length - S.length = d + 1 := ⟨(univ R l).length - S.length - 1, by omega⟩
      have hd2 : (univ R l).length - (S.length + 1) = d := by omega
      rw [hd, Nat.succ_mul] at hn
      rw [hd2]
      omega
theorem needL_ok (R : Regy) (l : List Mod) : Needs R l (needL R l) [] := needStep_ok R l _ [] l (Needs.start R l) (by simp)
theorem needL_mem (R : Regy) (l : List Mod) (m : Mod) : m ∈ needL R l ↔ Reach R l m := (needL_ok R l).fin m
theorem needL_nodup (R : Regy) (l : List Mod) : (needL R l).Nodup := (needL_ok R l).nodup
/-- are all needed modules known, apart from those of a path? -/
def knownB (R : Regy) (l : List Mod) (rp : List UInt8) : Bool := (needL R l).all fun m => decide (m.1 = rp) || hasR R m
theorem knownB_iff (R : Regy) (l : List Mod) (rp : List UInt8) : knownB R l rp = true ↔ ∀ m, Reach R l m → m.1 = rp ∨ hasR R m = true := by
  unfold knownB
  rw [List.all_eq_true]
  simp only [Bool.or_eq_true, decide_eq_true_eq, needL_mem]
/-- the list of a root -/
def listP (R : Regy) (root : Mod) (l : List Mod) : List Mod := root :: msort (topL root.1 (needL R l))
/-- the build list of a root, or the error -/
def buildP (R : Regy) (root : Mod) (l : List Mod) : List Mod × Int :=
  if checkR R = 0 then if mcheck root l = 0 then if knownB R l root.1 = true then (listP R root l, 0) else ([], 7) else ([], mcheck root l) else ([], checkR R)
theorem listP_eq {R : Regy} {root : Mod} {l S : List Mod} (hS : S.Nodup) (hr : ∀ m, m ∈ S ↔ Reach R l m) : root :: msort (topL root.1 S) = listP R root l := by
  unfold listP
  rw [topL_congr root.1 (S := S) (S' := needL R l) (fun m => by rw [hr, needL_mem]) hS (needL_nodup R l)]
end Go.Proofs.YtfiilbdkhelhgaaDoor

namespace Go.Proofs.YtfiilbdkhelhgaaDoor
open Go.RowKit Go.Sort

/-- are the needed modules of x known, and not above m? -/
def lowP (R : Regy) (rp : List UInt8) (m x : Mod) : Bool := (needL R [x]).all fun y => (decide (y.1 = rp) || hasR R y) && (!decide (y.1 = m.1) || decide (vcmpV y.2 m.2 ≤ 0))
theorem lowP_iff (R : Regy) (rp : List UInt8) (m x : Mod) (S : List Mod) (q : Bool) (hS : ∀ y, y ∈ S ↔ Reach R [x] y) (hq : q = true ↔ ∀ y, Reach R [x] y → y.1 = rp ∨ hasR R y = true) :
    lowP R rp m x = true ↔ q = true ∧ ∀ y ∈ S, y.1 ≠ m.1 ∨ vcmpV y.2 m.2 ≤ 0 := by
  unfold lowP
  rw [List.all_eq_true]
  simp only [Bool.and_eq_true, Bool.or_eq_true, Bool.not_eq_true', decide_eq_true_eq, decide_eq_false_iff_not, needL_mem, hS]
  rw [hq]
  exact ⟨fun h => ⟨fun y hy => (h y hy).1, fun y hy => (h y hy).2⟩, fun h y hy => ⟨h.1 y hy, h.2 y hy⟩⟩
def zmod : Mod := ([], 0, 0, 0)
/-- may a requirement x become z? -/
def fitP (R : Regy) (rp : List UInt8) (m x z : Mod) : Bool := decide (z.1 = x.1) && (decide (vcmpV z.2 x.2 ≤ 0) && lowP R rp m z)
def takeM (b : Option Mod) (z : Mod) : Option Mod := match b with | none => some z | some u => if 0 < mcmp z u then some z else some u
def dstep (R : Regy) (rp : List UInt8) (m x : Mod) (b : Option Mod) (z : Mod) : Option Mod := if fitP R rp m x z = true then takeM b z else b
/-- what a requirement becomes -/
def downB (R : Regy) (rp : List UInt8) (m x : Mod) : Option Mod := (R.map (·.1)).foldl (dstep R rp m x) none
def downL (R : Regy) (rp : List UInt8) (m : Mod) (l : List Mod) : List Mod := l.filterMap (downB R rp m)
/-- the first error of a change of a root with a module -/
def mayP (R : Regy) (root : Mod) (l : List Mod) (m : Mod) : Int :=
  if (buildP R root l).2 = 0 then if hasR R m = true then if m.1 = root.1 then 6 else 0 else 7 else (buildP R root l).2
/-- a root with a module at most -/
def downP (R : Regy) (root : Mod) (l : List Mod) (m : Mod) : (Mod × List Mod) × Int :=
  if mayP R root l m = 0 then ((root, msort (downL R root.1 m l)), 0) else ((zmod, []), mayP R root l m)
theorem downL_take {R : Regy} {rp : List UInt8} {m : Mod} {l : List Mod} {k : Nat} (hk : k < l.length) :
    downL R rp m (l.take (k + 1)) = downL R rp m (l.take k) ++ (downB R rp m l[k]).toList := by
  unfold downL
  rw [List.take_succ_eq_append_getElem hk, List.filterMap_append]
  congr 1
theorem dfold_take {R : Regy} {rp : List UInt8} {m x : Mod} {b : Option Mod} {L : List Mod} {k : Nat} (hk : k < L.length) :
    (L.take (k + 1)).foldl (dstep R rp m x) b = dstep R rp m x ((L.take k).foldl (dstep R rp m x) b) L[k] := by
  rw [List.take_succ_eq_append_getElem hk, List.foldl_append]
  rfl
end Go.Proofs.YtfiilbdkhelhgaaDoor

namespace Go.Proofs.YtfiilbdkhelhgaaDoor
open Go.RowKit Go.Sort

/-- the module that led to another one -/
def lookF (F : List (Mod × Mod)) (m : Mod) : Option Mod := (F.find? fun y => decide (y.1 = m)).map (·.2)
/-- what is to be looked at -/
def todoF (first : List Mod) (F : List (Mod × Mod)) : List Mod := first ++ F.map (·.1)
def addF (first : List Mod) (p : Mod) (F : List (Mod × Mod)) (m : Mod) : List (Mod × Mod) := if (lookF F m).isNone = true ∧ m ∉ first then F ++ [(m, p)] else F
def bfsRound (R : Regy) (first : List Mod) (p : Mod) (F : List (Mod × Mod)) : List (Mod × Mod) := (msort (reqOf R p)).foldl (addF first p) F
def bfs (R : Regy) (first : List Mod) (g : Mod) : Nat → Nat → List (Mod × Mod) → List (Mod × Mod)
  | 0, _, F => F
  | n + 1, k, F => match (todoF first F)[k]? with
    | none => F
    | some p => if p = g then F else bfs R first g n (k + 1) (bfsRound R first p F)
def chainUp (first : List Mod) (F : List (Mod × Mod)) : Nat → List Mod → List Mod
  | 0, out => out
  | _ + 1, [] => []
  | n + 1, x :: r => if x ∈ first then x :: r else chainUp first F n ((lookF F x).getD zmod :: x :: r)
def bfsF (R : Regy) (l : List Mod) (g : Mod) : List (Mod × Mod) := bfs R (msort l) g (l.length + (univ R l).length + 1) 0 []
/-- a shortest chain of requirements to a path -/
def reasonP (R : Regy) (root : Mod) (l : List Mod) (path : List UInt8) : List Mod × Int :=
  if (buildP R root l).2 = 0 then
    match ((buildP R root l).1.drop 1).find? fun m => decide (m.1 = path) with
    | none => ([], 7)
    | some g => (chainUp (msort l) (bfsF R l g) (bfsF R l g).length [g], 0)
  else ([], (buildP R root l).2)

theorem lookF_none {F : List (Mod × Mod)} {m : Mod} : lookF F m = none ↔ m ∉ F.map (·.1) := by
  unfold lookF
  rw [Option.map_eq_none_iff, List.find?_eq_none]
  constructor
  · intro h hm
    obtain ⟨y, hy, rfl⟩ := List.mem_map.1 hm
    exact h y hy (decide_eq_true rfl)
  · intro h y hy hd
    exact h (List.mem_map.2 ⟨y, hy, of_decide_eq_true hd⟩)
theorem lookF_put {F : List (Mod × Mod)} {m p : Mod} (h : lookF F m = none) (x : Mod) : lookF (F ++ [(m, p)]) x = if x = m then some p else lookF F x := by
  unfold lookF at *
  rw [List.find?_append]
  by_cases hx : x = m
  · subst hx
    rw [Option.map_eq_none_iff] at h
    simp [h]
  · cases hf : F.find? fun y => decide (y.1 = x) with
    | some z => simp [hx]
    | none => simp [hx, Ne.symm hx]
theorem lookF_at : ∀ {F : List (Mod × Mod)} (_ : (F.map (·.1)).Nodup) {i : Nat} (hi : i < F.length), lookF F F[i].1 = some F[i].2
  | [], _, i, hi => by simp at hi
  | y :: F, h, 0, _ => by simp [lookF]
  | y :: F, h, i + 1, hi => by
    rw [List.map_cons, List.nodup_cons] at h
    have hi' : i < F.length := by simpa using hi
    have hne : ¬ (y.1 = (F[i]).1) := fun e => h.1 (by rw [e]; exact List.mem_map.2 ⟨F[i], List.getElem_mem hi', rfl⟩)
    have ih := lookF_at h.2 hi'
    simp only [List.getElem_cons_succ]
    unfold lookF at ih ⊢
    rw [List.find?_cons, decide_eq_false hne]
    exact ih
theorem msort_mem {l : List Mod} {x : Mod} : x ∈ msort l ↔ x ∈ l := (List.mergeSort_perm l _).mem_iff

structure BInv (R : Regy) (l : List Mod) (F : List (Mod × Mod)) : Prop where
  nod : (F.map (·.1)).Nodup
  new : ∀ x ∈ F.map (·.1), x ∉ msort l
  par : ∀ i (hi : i < F.length), F[i].2 ∈ msort l ++ (F.map (·.1)).take i
  rch : ∀ x ∈ todoF (msort l) F, Reach R l x
  edge : ∀ i (hi : i < F.length), F[i].1 ∈ reqOf R F[i].2
theorem BInv.start (R : Regy) (l : List Mod) : BInv R l [] :=
  ⟨List.nodup_nil, by simp, fun i hi => by simp at hi, fun x hx => .base (msort_mem.1 (by simpa [todoF] using hx)), fun i hi => by simp at hi⟩
theorem BInv.add {R : Regy} {l : List Mod} {F : List (Mod × Mod)} {p m : Mod} (h : BInv R l F) (hp : p ∈ todoF (msort l) F) (hm : m ∈ reqOf R p) :
    BInv R l (addF (msort l) p F m) ∧ m ∈ todoF (msort l) (addF (msort l) p F m) ∧ ∃ X, todoF (msort l) (addF (msort l) p F m) = todoF (msort l) F ++ X := by
  unfold addF
  split
  · rename_i hc
    obtain ⟨h1, h2⟩ := hc
    have h3 : m ∉ F.map (·.1) := lookF_none.1 (Option.isNone_iff_eq_none.1 h1)
    have he : todoF (msort l) (F ++ [(m, p)]) = todoF (msort l) F ++ [m] := by simp [todoF]
    refine ⟨⟨?_, ?_, ?_, ?_, ?_⟩, by rw [he]; simp, [m], he⟩
    · rw [List.map_append, List.nodup_append]
      refine ⟨h.nod, by simp, ?_⟩
      intro a ha b hb hab
      obtain rfl : b = m := by simpa using hb
      exact h3 (hab ▸ ha)
    · intro x hx
      rw [List.map_append, List.mem_append] at hx
      rcases hx with hx | hx
      · exact h.new x hx
      · obtain rfl : x = m := by simpa using hx
        exact h2
    · intro i hi
      by_cases hlt : i < F.length
      · rw [List.getElem_append_left hlt, List.map_append, List.take_append_of_le_length (by simp; omega)]
        exact h.par i hlt
      · obtain rfl : i = F.length := by simp at hi; omega
        rw [List.getElem_append_right (Nat.le_refl _), List.map_append, List.take_append_of_le_length (by simp), List.take_of_length_le (by simp)]
        simpa [todoF] using hp
    · intro x hx
      rw [he, List.mem_append] at hx
      rcases hx with hx | hx
      · exact h.rch x hx
      · obtain rfl : x = m := by simpa using hx
        exact .step (h.rch p hp) hm
    · intro i hi
      by_cases hlt : i < F.length
      · rw [List.getElem_append_left hlt]
        exact h.edge i hlt
      · obtain rfl : i = F.length := by simp at hi; omega
        rw [List.getElem_append_right (Nat.le_refl _)]
        simpa using hm
  · rename_i hc
    refine ⟨h, ?_, [], by simp⟩
    by_cases h1 : (lookF F m).isNone = true
    · have : m ∈ msort l := Classical.byContradiction fun h2 => hc ⟨h1, h2⟩
      unfold todoF
      exact List.mem_append_left _ this
    · have h2 : ¬ lookF F m = none := fun e => h1 (by rw [e]; rfl)
      rw [lookF_none, Classical.not_not] at h2
      unfold todoF
      exact List.mem_append_right _ h2
theorem BInv.len {R : Regy} {l : List Mod} {F : List (Mod × Mod)} (h : BInv R l F) : F.length ≤ (univ R l).length ∧ (todoF (msort l) F).length ≤ l.length + (univ R l).length := by
  have h1 := nodup_len (F.map (·.1)) (univ R l) h.nod fun x hx => (h.rch x (List.mem_append_right _ hx)).univ
  rw [List.length_map] at h1
  refine ⟨h1, ?_⟩
  unfold todoF
  rw [List.length_append, msort_len, List.length_map]
  omega
/-- what is looked at has been handed on -/
def Closed (R : Regy) (l : List Mod) (k : Nat) (F : List (Mod × Mod)) : Prop := ∀ j (hj : j < (todoF (msort l) F).length), j < k → ∀ m ∈ reqOf R (todoF (msort l) F)[j], m ∈ todoF (msort l) F
theorem Closed.all {R : Regy} {l : List Mod} {F : List (Mod × Mod)} (h : Closed R l (todoF (msort l) F).length F) {m : Mod} (hm : Reach R l m) : m ∈ todoF (msort l) F := by
  induction hm with
  | base h1 => exact List.mem_append_left _ (msort_mem.2 h1)
  | step _ h2 ih =>
    obtain ⟨j, hj, rfl⟩ := List.mem_iff_getElem.1 ih
    exact h j hj hj _ h2
/-- the inner loop -/
structure InnerI (R : Regy) (l : List Mod) (k : Nat) (p : Mod) (F0 : List (Mod × Mod)) (q : Nat) (F : List (Mod × Mod)) : Prop where
  inv : BInv R l F
  eq : ((msort (reqOf R p)).take q).foldl (addF (msort l) p) F0 = F
  pre : ∃ X, todoF (msort l) F = todoF (msort l) F0 ++ X
  seen : ∀ m ∈ (msort (reqOf R p)).take q, m ∈ todoF (msort l) F
theorem InnerI.start {R : Regy} {l : List Mod} {k : Nat} {p : Mod} {F : List (Mod × Mod)} (h : BInv R l F) : InnerI R l k p F 0 F := ⟨h, rfl, ⟨[], by simp⟩, by simp⟩
theorem InnerI.step {R : Regy} {l : List Mod} {k : Nat} {p : Mod} {F0 F : List (Mod × Mod)} {q : Nat} (h : InnerI R l k p F0 q F) (hp : p ∈ todoF (msort l) F0) (hq : q < (msort (reqOf R p)).length) :
    InnerI R l k p F0 (q + 1) (addF (msort l) p F (msort (reqOf R p))[q]) := by
  obtain ⟨X, hX⟩ := h.pre
  have hp2 : p ∈ todoF (msort l) F := by rw [hX]; exact List.mem_append_left _ hp
  have hm : (msort (reqOf R p))[q] ∈ reqOf R p := msort_mem.1 (List.getElem_mem hq)
  obtain ⟨h1, h2, X2, hX2⟩ := h.inv.add hp2 hm
  refine ⟨h1, ?_, ⟨X ++ X2, by rw [hX2, hX, List.append_assoc]⟩, fun m hmm => ?_⟩
  · rw [List.take_succ_eq_append_getElem hq, List.foldl_append, h.eq]
    rfl
  · rw [List.take_succ_eq_append_getElem hq, List.mem_append] at hmm
    rcases hmm with hmm | hmm
    · rw [hX2]
      exact List.mem_append_left _ (h.seen m hmm)
    · rw [List.mem_singleton.1 hmm]
      exact h2
theorem InnerI.done {R : Regy} {l : List Mod} {k : Nat} {p : Mod} {F0 F : List (Mod × Mod)} (h : InnerI R l k p F0 (msort (reqOf R p)).length F) (hc : Closed R l k F0) (hk : (todoF (msort l) F0)[k]? = some p) :
    F = bfsRound R (msort l) p F0 ∧ Closed R l (k + 1) F := by
  obtain ⟨X, hX⟩ := h.pre
  have hkl : k < (todoF (msort l) F0).length := (List.getElem?_eq_some_iff.1 hk).1
  have hke := (List.getElem?_eq_some_iff.1 hk).2
  refine ⟨?_, fun j hj hjk m hm => ?_⟩
  · rw [← h.eq, List.take_of_length_le (Nat.le_refl _)]
    rfl
  · have hjl : j < (todoF (msort l) F0).length := by omega
    have e : (todoF (msort l) F)[j] = (todoF (msort l) F0)[j] := by
      have h1 : (todoF (msort l) F)[j]? = (todoF (msort l) F0)[j]? := by rw [hX, List.getElem?_append_left hjl]
      rw [List.getElem?_eq_getElem hj, List.getElem?_eq_getElem hjl] at h1
      exact Option.some.inj h1
    rw [e] at hm
    by_cases hjk2 : j < k
    · rw [hX]
      exact List.mem_append_left _ (hc j hjl hjk2 m hm)
    · obtain rfl : j = k := by omega
      rw [hke] at hm
      exact h.seen m (by rw [List.take_of_length_le (Nat.le_refl _)]; exact msort_mem.2 hm)
theorem bfs_end {R : Regy} {first : List Mod} {g : Mod} {F : List (Mod × Mod)} {k : Nat} (h : (todoF first F)[k]? = none) : ∀ n, bfs R first g n k F = F
  | 0 => rfl
  | n + 1 => by unfold bfs; rw [h]
theorem bfs_hit {R : Regy} {first : List Mod} {g : Mod} {F : List (Mod × Mod)} {k : Nat} (h : (todoF first F)[k]? = some g) : ∀ n, bfs R first g n k F = F
  | 0 => rfl
  | n + 1 => by unfold bfs; rw [h]; simp
theorem bfs_step {R : Regy} {first : List Mod} {g p : Mod} {F : List (Mod × Mod)} {k : Nat} (h : (todoF first F)[k]? = some p) (hp : p ≠ g) (n : Nat) : bfs R first g (n + 1) k F = bfs R first g n (k + 1) (bfsRound R first p F) := by
  rw [bfs, h]
  simp [hp]
theorem chain_end {first : List Mod} {F : List (Mod × Mod)} {x : Mod} {r : List Mod} (h : x ∈ first) : ∀ n, chainUp first F n (x :: r) = x :: r
  | 0 => rfl
  | n + 1 => by unfold chainUp; rw [if_pos h]
theorem chain_step {R : Regy} {l : List Mod} {F : List (Mod × Mod)} {x : Mod} {r : List Mod} {n : Nat} (hI : BInv R l F) (hx : x ∈ msort l ++ (F.map (·.1)).take n) (h : x ∉ msort l) :
    ∃ n' p, n = n' + 1 ∧ lookF F x = some p ∧ p ∈ msort l ++ (F.map (·.1)).take n' ∧ x ∈ reqOf R p ∧ chainUp (msort l) F n (x :: r) = chainUp (msort l) F n' (p :: x :: r) := by
  have hx2 := (List.mem_append.1 hx).resolve_left h
  obtain ⟨i, hi, rfl⟩ := List.mem_iff_getElem.1 hx2
  rw [List.length_take] at hi
  have hiF : i < F.length := by simp at hi; omega
  have hin : i < n := by omega
  have e : ((F.map (·.1)).take n)[i] = (F[i]).1 := by simp
  obtain ⟨n', rfl⟩ : ∃ n', n = n' + 1 := ⟨n - 1, by omega⟩
  have hl := lookF_at hI.nod hiF
  refine ⟨n', F[i].2, rfl, by simpa using hl, ?_, by rw [e]; exact hI.edge i hiF, ?_⟩
  · have hp := hI.par i hiF
    rcases List.mem_append.1 hp with h1 | h1
    · exact List.mem_append_left _ h1
    · refine List.mem_append_right _ ?_
      have : (F.map (·.1)).take i <+: (F.map (·.1)).take n' := List.take_prefix_take_left (by omega)
      exact this.subset h1
  · rw [chainUp, if_neg h, e, hl]
    rfl
end Go.Proofs.YtfiilbdkhelhgaaDoor
