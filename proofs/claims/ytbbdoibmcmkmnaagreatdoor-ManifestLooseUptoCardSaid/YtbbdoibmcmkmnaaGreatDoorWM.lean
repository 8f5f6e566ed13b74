/- Walks: sorted, the text of a manifest. -/
import Derived.Test.YtbbdoibmcmkmnaaGreatDoorWL
namespace Go.Proofs.YtbbdoibmcmkmnaaGreatDoor
open Go.RowKit Go.Sort

/-- a row of modules in new memory, or an empty one -/
def NewRow (w : World) (base : Nat) (v : Value) (l : List Mod) : Prop :=
  (l = [] ∧ ∃ A c, v = .slice A 0 c) ∨ (v ≠ .slice none 0 0 ∧ w.ownsRow base 25 4 v l.length (l.flatMap encM))
theorem NewRow.slice {w : World} {base : Nat} {v : Value} {l : List Mod} (h : NewRow w base v l) : ∃ A c, v = .slice A l.length c := by
  rcases h with ⟨rfl, A, c, rfl⟩ | ⟨_, h⟩
  · exact ⟨A, c, rfl⟩
  · exact Acc.shape (.inl h)

set_option maxRecDepth 100000 in
set_option maxHeartbeats 1000000 in
theorem cloneM_any (A : Option Addr) (c : Nat) (l : List Mod) (w : World) (hA : Sl w w.heap.size 4 encM A l) (hl : l.length ≤ 1099511627776) :
    Calls Tryz.prog 58 #[.slice A l.length c] w fun e w' => ∃ v, e = .returned v ∧ NewRow w' w.heap.size v l ∧ Below w.heap.size w w' := by
  rcases hA with rfl | ⟨b, off, rfl, hb, hc⟩
  · rcases A with _ | ad
    · refine (AnyE.slices_Clone_nil Tryz.cloneM 0 c w).mono ?_
      rintro e w' ⟨rfl, rfl⟩
      exact ⟨_, rfl, .inl ⟨rfl, _, _, rfl⟩, Below.refl _ _⟩
    · have q := fun (w : World) => Lib.run_eql_slice_nil w _ _ (some ad) 0 c 0 0 Tryz.underlying26
      have hac := Acc.marked w #[] w.heap.size 25 4 0 (0, 0) rfl
      show Calls Tryz.prog 58 #[.slice (some ad) 0 c] w _
      go_enter Tryz.func58, Tryz.ntmps58
      go_wp2_with (at_builtin; refine wpList_app _ rfl (.tmp 5) (.tmp 6) 26 rfl w.heap.size 25 4 40 elMod (.slice (some ⟨w.heap.size, 0, none⟩) 0 0) 0 _ rfl hac (some ad) 0 c [] rfl ⟨rfl, fun h => absurd h (by decide)⟩ (by simp) (by simp [maxLen]) (by omega) (by simp) ?_; intro v' w1 hacc' _ hb' _ _)
      go_ret
      obtain ⟨A', c', rfl⟩ := hacc'.shape
      exact ⟨_, rfl, .inl ⟨rfl, _, _, rfl⟩, ((Below.refl _ _).alloc (Nat.le_refl _) _).trans hb'⟩
  · obtain ⟨_, h0, i, z, e1, e2, e3, e4, e5⟩ := elMod
    have hsr := (Sl.src (.inr ⟨b, off, rfl, hb, hc⟩ : Sl w w.heap.size 4 encM (some ⟨b, off, none⟩) l) encM_len)
    rcases Nat.eq_zero_or_pos l.length with h0' | hpos
    · obtain rfl : l = [] := List.eq_nil_of_length_eq_zero h0'
      refine (AnyE.slices_Clone Tryz.cloneM i z 4 40 e1 e2 e3 e4 e5 h0 Tryz.sizeOf25 b off 0 c [] w rfl (by simp [maxLen]) (by omega) (by simp) (by simp)).mono ?_
      rintro e w' ⟨v, rfl, h1, h2, h3⟩
      exact ⟨v, rfl, .inr ⟨h2, h1⟩, h3⟩
    · refine (AnyE.slices_Clone Tryz.cloneM i z 4 40 e1 e2 e3 e4 e5 h0 Tryz.sizeOf25 b off l.length c (l.flatMap encM) w (flat_len encM_len l) (by simp only [maxLen]; omega) (by omega) (fun j u hu => ?_) (encM_one l)).mono ?_
      · obtain ⟨ad, had, hcs⟩ := hsr.2 hpos
        injection had with had
        subst had
        have := hcs j u hu
        rwa [Addr.add_lit] at this
      · rintro e w' ⟨v, rfl, h1, h2, h3⟩
        exact ⟨v, rfl, .inr ⟨h2, h1⟩, h3⟩

theorem sortMs_any (v : Value) (l : List Mod) (w : World) (base : Nat) (h : NewRow w base v l) (hl : l.length ≤ 1099511627776) :
    Calls Tryz.prog 59 #[v, .func (.func 23) #[] #[]] w fun e w' => e = .returned (.tuple #[]) ∧ (∃ A c, v = .slice A l.length c ∧ Sl w' w'.heap.size 4 encM A (msort l)) ∧ Below base w w' := by
  rcases h with ⟨rfl, A, c, rfl⟩ | ⟨hv, h⟩
  · refine (AnyF.slices_SortFunc_none Tryz.sortM A c _ w).mono ?_
    rintro e w' ⟨rfl, rfl⟩
    exact ⟨rfl, ⟨A, c, rfl, .inl (by simp [msort])⟩, Below.refl _ _⟩
  · refine (sortM_any v l w base h hv hl).mono ?_
    rintro e w' ⟨rfl, ⟨A, c, rfl, _, h1⟩, h2⟩
    exact ⟨rfl, ⟨A, c, rfl, h1⟩, h2⟩

theorem Sl.setCell {α : Type} {w : World} {B k : Nat} {enc : α → List Value} {A : Option Addr} {l : List α} (h : Sl w B k enc A l) (p : Addr) (u : Value) (hne : l = [] ∨ ∀ a, A = some a → a.block ≠ p.block) : Sl (w.setCell p u) B k enc A l := by
  rcases hne with rfl | hne
  · exact .inl rfl
  · rcases h with h | ⟨b, off, e, hb, hc⟩
    · exact .inl h
    · exact .inr ⟨b, off, e, hb, fun i hi j v hv => (World.cell?_of_block (w := w) (Below.heap_setCell w p u b (hne _ e))).trans (hc i hi j v hv)⟩
theorem blk_keep2 {w0 w1 w2 : World} {B g : Nat} {t : TypeId} {cs : Array Value} (h : Blk w0 g t cs) (h1 : Below B w0 w1) (h2 : Below B w1 w2) (hg : g < B) : Blk w2 g t cs := ((h2.block g hg).trans (h1.block g hg)).trans h
set_option maxRecDepth 100000 in
set_option maxHeartbeats 2000000 in
theorem sorted_far (m : Mod) (A : Option Addr) (c : Nat) (l : List Mod) (w : World) (hA : Sl w w.heap.size 4 encM A l) (hl : l.length ≤ 1099511627776) :
    Calls Tryz.prog 41 #[.agg #[.string ⟨m.1.toArray⟩, .int .i64 m.2.1, .int .i64 m.2.2.1, .int .i64 m.2.2.2, .slice A l.length c]] w fun e w' =>
      ∃ A' c', e = .returned (.agg #[.string ⟨m.1.toArray⟩, .int .i64 m.2.1, .int .i64 m.2.2.1, .int .i64 m.2.2.2, .slice A' l.length c']) ∧ Sl w' w'.heap.size 4 encM A' (msort l) ∧ Below w.heap.size w w' ∧ (l = [] ∨ ∀ a, A' = some a → w.heap.size ≤ a.block) := by
  have cc := Lib.hid (fun (W : World) (hW : Below w.heap.size w W) => cloneM_any A c l W ((hA.below hW).more hW.size) hl)
  clear hA
  go_enter Tryz.func41, Tryz.ntmps41
  have hblk0 := Lib.hid ((Blk.new w 28 #[.string ⟨m.1.toArray⟩, .int .i64 m.2.1, .int .i64 m.2.2.1, .int .i64 m.2.2.2, .slice A l.length c]).keep ((Below.refl _ _).alloc (Nat.le_refl _) (.cells #[.string ByteArray.empty, .int .i64 0, .int .i64 0, .int .i64 0, .slice none 0 0] 28)))
  have hblk1 := Lib.hid (Blk.new (w.alloc (.cells #[.string ⟨m.1.toArray⟩, .int .i64 m.2.1, .int .i64 m.2.2.1, .int .i64 m.2.2.2, .slice A l.length c] 28)) 28 #[.string ByteArray.empty, .int .i64 0, .int .i64 0, .int .i64 0, .slice none 0 0])
  go_wp2_with (first
    | (go_at_call 58; refine (cc.out _ (((Below.refl _ _).alloc (Nat.le_refl _) _).alloc (by simp) _)).mono ?_; rintro e w1 ⟨v, rfl, hn, hb1⟩; have hn' := Lib.hid hn; obtain ⟨A1, c1, rfl⟩ := hn.slice; clear hn; have hX := Lib.hid hb1; clear hb1)
    | (go_at_call 59; refine (sortMs_any _ l _ _ hn'.out hl).mono ?_; rintro e w2 ⟨rfl, ⟨A2, c2, h2, hs⟩, hb2⟩;
       have q0 := blk_keep2 hblk0.out hX.out hb2 (by simp; omega); have q1 := blk_keep2 hblk1.out hX.out hb2 (by simp);
       have hY := Lib.hid hb2; clear hb2; have hZ := Lib.hid hs; clear hs; have hE := Lib.hid h2; clear h2;
       have k0 := q0.cell 0; have k1 := q0.cell 1; have k2 := q0.cell 2; have k3 := q0.cell 3;
       have r0 := q1.cell 0; have r1 := q1.cell 1; have r2 := q1.cell 2; have r3 := q1.cell 3; have r4 := q1.cell 4;
       have f0 := q1.free 0; have f1 := q1.free 1; have f2 := q1.free 2; have f3 := q1.free 3; have f4 := q1.free 4;
       clear q0 q1; simp at k0 k1 k2 k3 r0 r1 r2 r3 r4 f0 f1 f2 f3 f4))
  have hEE := hE.out
  injection hEE with e1 e2 e3
  subst e1
  have hB : Below w.heap.size w w2 := (((Below.refl _ _).alloc (Nat.le_refl _) _).alloc (by simp) _).trans ((hX.out.mono (by simp; omega)).trans (hY.out.mono (by simp; omega)))
  have hX2 : w.heap.size + 2 ≤ w2.heap.size := by have h1 := hX.out.size; have h2 := hY.out.size; simp at h1 h2; omega
  refine bodyPost_ret (v := .agg #[.string ⟨m.1.toArray⟩, .int .i64 m.2.1, .int .i64 m.2.2.1, .int .i64 m.2.2.2, .slice A1 l.length c1]) (by simp [results, Tryz.results41, go_sem, r0, r1, r2, r3, r4]) rfl ⟨A1, c1, rfl, ?_, ?_, ?_⟩
  · have hne : msort l = [] ∨ ∀ a, A1 = some a → a.block ≠ w.heap.size + 1 := by
      rcases hn'.out with ⟨rfl, _⟩ | ⟨_, h⟩
      · exact .inl (by simp [msort])
      · rcases h.2 with ⟨h, h'⟩ | ⟨g, cap, cur, h, hg, _⟩
        · exact .inl (List.eq_nil_of_length_eq_zero (by rw [msort_len]; exact h'))
        · refine .inr fun a ha => ?_
          injection h with h
          rw [h] at ha
          injection ha with ha
          subst ha
          simp at hg
          show g ≠ w.heap.size + 1
          omega
    have hsz : ∀ (W : World) p u, (W.setCell p u).heap.size = W.heap.size := fun W p u => by simp [World.setCell]
    simp only [hsz]
    exact ((((hZ.out.setCell _ _ hne).setCell _ _ hne).setCell _ _ hne).setCell _ _ hne).setCell _ _ hne
  · exact ((((hB.setCell (by simp) _).setCell (by simp) _).setCell (by simp) _).setCell (by simp) _).setCell (by simp) _
  · rcases hn'.out with ⟨rfl, _⟩ | ⟨_, h⟩
    · exact .inl rfl
    · rcases h.2 with ⟨_, h'⟩ | ⟨g, cap, cur, h, hg, _⟩
      · exact .inl (List.eq_nil_of_length_eq_zero h')
      · refine .inr fun a ha => ?_
        injection h with h
        rw [h] at ha
        injection ha with ha
        subst ha
        simp at hg
        show w.heap.size ≤ g
        omega
theorem sorted_any (m : Mod) (A : Option Addr) (c : Nat) (l : List Mod) (w : World) (hA : Sl w w.heap.size 4 encM A l) (hl : l.length ≤ 1099511627776) :
    Calls Tryz.prog 41 #[.agg #[.string ⟨m.1.toArray⟩, .int .i64 m.2.1, .int .i64 m.2.2.1, .int .i64 m.2.2.2, .slice A l.length c]] w fun e w' =>
      ∃ A' c', e = .returned (.agg #[.string ⟨m.1.toArray⟩, .int .i64 m.2.1, .int .i64 m.2.2.1, .int .i64 m.2.2.2, .slice A' l.length c']) ∧ Sl w' w'.heap.size 4 encM A' (msort l) ∧ Below w.heap.size w w' :=
  (sorted_far m A c l w hA hl).mono fun _ _ ⟨A', c', h1, h2, h3, _⟩ => ⟨A', c', h1, h2, h3⟩
end Go.Proofs.YtbbdoibmcmkmnaaGreatDoor
