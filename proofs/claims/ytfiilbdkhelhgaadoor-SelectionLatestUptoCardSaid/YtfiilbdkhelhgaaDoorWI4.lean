/- Walk: a module ahead of a row (slices.Insert at 0). -/
import Derived.Test.YtfiilbdkhelhgaaDoorWI3
import Derived.Laws.Externs
import Derived.Laws.CopyRow
import Derived.Lib.AppendZerosOnto
import Derived.Lib.Overlaps
import Derived.Deep.RegionLaw
namespace Go.Proofs.YtfiilbdkhelhgaaDoor
open Go.RowKit Go.Sort

section
variable {P : Program}
theorem run_copyK (w : World) (dT sT ty elem : TypeId) (g o dLen dCap k : Nat) (a : Addr) (sLen sCap : Nat) (cur : Array Value) (t : TypeId) (cs : List Value)
    (hu : P.underlying dT = some (.slice elem)) (hs : (P.info? elem).map (·.size) = some k)
    (hg : w.heap[g]? = some (.cells cur t (0, 0))) (hn : cs.length = Nat.min sLen dLen * k)
    (hsrc : ∀ j v, cs[j]? = some v → w.cell? (a.add j) = some v) (hfit : o + cs.length ≤ cur.size) (h1 : ∀ v ∈ cs, v.oneCell' = true) :
    (Builtin.copy_ #[dT, sT] ty #[.slice (some ⟨g, o, none⟩) dLen dCap, .slice (some a) sLen sCap]).run P w =
      .ok (goInt (Nat.min sLen dLen)) (w.setRow g (cur.toList.take o ++ cs ++ cur.toList.drop (o + cs.length)).toArray) := by
  have hl := run_loadCells_list (P := P) w a cs hsrc
  have hst := run_storeCells_at P g o t cs 0 cur w hg (by simpa using hfit) h1
  cases hq : P.info? elem with
  | none => simp [hq] at hs
  | some i =>
    have hi : i.size = k := by simpa [hq] using hs
    simp [Builtin.copy_, run_underlying hu, Builtin.lenOf, Builtin.firstCells, sizeOf, typeInfo, hq, hi, ← hn, hl, hst]
theorem wp_copy1 {o : Oper} {a : Act} {w : World} {K : Act → World → Prop} {Q : Exit → Act → World → Prop} (d s : Operand) (t t' : TypeId)
    (ho : o.op = .call { callee := .builtin .copy, args := #[d, s], argTypes := #[t, t'] }) (v u : Value) (hd : a.eval d = v) (hs : a.eval s = u) {v' : Value} {w' : World}
    (hr : (Builtin.copy_ #[t, t'] o.type #[v, u]).run P w = .ok v' w') (h : K (a.put o.dst v') w') : o.wp P a w K Q := by
  unfold Oper.wp execOp
  simp only [ho, resolve, invoke, builtin, Sem.run_bind, Sem.run_pure, Result.andThen_ok, List.map_toArray, List.map_cons, List.map_nil, hd, hs, hr]
  exact h
theorem wpList_copy1 {w : World} {ops : Array Oper} {rest : List Oper} {o : Oper} {a : Act} {Q : Exit → Act → World → Prop} (hgd : o.guard = none) (d s : Operand) (t t' : TypeId)
    (ho : o.op = .call { callee := .builtin .copy, args := #[d, s], argTypes := #[t, t'] }) (v u : Value) (hd : a.eval d = v) (hs : a.eval s = u) {v' : Value} {w' : World}
    (hr : (Builtin.copy_ #[t, t'] o.type #[v, u]).run P w = .ok v' w') (h : wpList P ops Q rest (a.put o.dst v') w') : wpList P ops Q (o :: rest) a w :=
  wpList_plain hgd fun _ hK => wp_copy1 d s t t' ho v u hd hs hr (hK _ _ h)
theorem step_copy1 {w : World} {ops : Array Oper} {o : Oper} {a : Act} {K : Act → World → Prop} {Q : Exit → Act → World → Prop} {E : Prop} (hgd : o.guard = none) (d s : Operand) (t t' : TypeId)
    (ho : o.op = .call { callee := .builtin .copy, args := #[d, s], argTypes := #[t, t'] }) (v u : Value) (hd : a.eval d = v) (hs : a.eval s = u) {v' : Value} {w' : World}
    (hr : (Builtin.copy_ #[t, t'] o.type #[v, u]).run P w = .ok v' w') (h : K (a.put o.dst v') w') :
    if Region.wanted o (yielded ops a.tmps) = true then Oper.wp P o a w K Q else E := by
  have hw : Region.wanted o (yielded ops a.tmps) = true := by simp [Region.wanted, hgd]
  rw [if_pos hw]
  exact wp_copy1 d s t t' ho v u hd hs hr h
theorem wpList_app1 {w : World} {ops : Array Oper} {rest : List Oper} {o : Oper} {a : Act} {Q : Exit → Act → World → Prop} (hgd : o.guard = none) (d s : Operand) (t t' : TypeId)
    (ho : o.op = .call { callee := .builtin .append, args := #[d, s], argTypes := #[t, t'] }) (v u : Value) (hd : a.eval d = v) (hs : a.eval s = u) {v' : Value} {w' : World}
    (hr : (Builtin.append_ #[t, t'] o.type #[v, u]).run P w = .ok v' w') (h : wpList P ops Q rest (a.put o.dst v') w') : wpList P ops Q (o :: rest) a w :=
  wpList_plain hgd fun _ hK => by
    unfold Oper.wp execOp
    simp only [ho, resolve, invoke, builtin, Sem.run_bind, Sem.run_pure, Result.andThen_ok, List.map_toArray, List.map_cons, List.map_nil, hd, hs, hr]
    exact hK _ _ h
theorem setRow_far (w : World) (g : Nat) (cs : Array Value) {k : Nat} (h : k ≠ g) : (w.setRow g cs).heap[k]? = w.heap[k]? := by
  unfold World.setRow
  simp only [Array.getElem?_modify]
  rw [if_neg (fun e => h e.symm)]
theorem setRow_size (w : World) (g : Nat) (cs : Array Value) : (w.setRow g cs).heap.size = w.heap.size := by simp [World.setRow]
theorem below_setRow {B g : Nat} {w0 w : World} (h : Below B w0 w) (hg : B ≤ g) (cs : Array Value) : Below B w0 (w.setRow g cs) :=
  h.trans ⟨rfl, rfl, rfl, by rw [setRow_size]; exact Nat.le_refl _, fun k hk => setRow_far w g cs (by omega)⟩
end

theorem overlapsM (w : World) (a b : Addr) (la ca lb cb : Nat) (hne : a.block ≠ b.block) (tA tB : TypeId) (kA kB : Nat) (hsa : w.shape? a.block = some (tA, kA)) (hsb : w.shape? b.block = some (tB, kB)) (hkB : kB ≠ 0)
    (hfa : w.frozen? a = false) (hfe : w.frozen? { block := a.block, off := kA } = false) :
    (callFunc 55 #[.slice (some a) la ca, .slice (some b) lb cb]).run Tryd.prog w = .ok (.value (.bool false)) w := by
  rw [run_callFunc_extern Tryd.func55 (by kernel_rfl) (by kernel_rfl) (by kernel_rfl) (e := Extern.SlicesOverlaps.overlaps #[27, 27] #[4]) (by kernel_rfl),
    Lib.run_overlaps_apart w 27 4 26 elMod.1 4 Tryd.sizeOf26 a b la ca lb cb hne tA tB kA kB hsa hsb hkB hfa hfe]
  rfl
theorem zeroCells_size (z : Array Value) (n : Nat) : (Builtin.zeroCells z n).size = n * z.size := by simp [Builtin.zeroCells]
theorem flat4 (A X C : List Value) (hA : A.length = 4) (hX : X.length = 4) {m : Nat} (hC : C.length = m) (R : List Value) (hR : R.length = 4 + m + A.length) :
    (X ++ R.drop 4).take 4 ++ C ++ (X ++ R.drop 4).drop (4 + m) = X ++ C ++ R.drop (4 + m) := by
  rw [List.take_append_of_le_length (by omega), List.take_of_length_le (by omega), List.drop_append, hX, List.drop_of_length_le (l := X) (by omega), List.nil_append, List.drop_drop]
  congr 2
  omega

set_option maxRecDepth 100000 in
set_option maxHeartbeats 4000000 in
theorem insert_grow (b off n c vb : Nat) (cs xs : List Value) (w : World) (hn0 : 0 < n) (hnc : n ≤ c) (hcn : c < n + 1) (hbig : n ≤ 1099511627776) (hcl : cs.length = n * 4) (hxl : xs.length = 4)
    (hcs : ∀ j v, cs[j]? = some v → w.cell? ⟨b, off + j, none⟩ = some v) (hxs : ∀ j v, xs[j]? = some v → w.cell? ⟨vb, 0 + j, none⟩ = some v) (h1c : ∀ v ∈ cs, v.oneCell' = true) (h1x : ∀ v ∈ xs, v.oneCell' = true) :
    Calls Tryd.prog 38 #[.slice (some ⟨b, off, none⟩) n c, .int .i64 0, .slice (some ⟨vb, 0, none⟩) 1 1] w fun e w' =>
      ∃ v', e = .returned v' ∧ w'.ownsRow w.heap.size 26 4 v' (n + 1) (xs ++ cs) ∧ Below w.heap.size w w' := by
  obtain ⟨ht, hsz, i0, z, hi0, hz0, hzs, hzb, hzc⟩ := elMod
  have hsM : (Tryd.prog.info? 26).map (·.size) = some 4 := by rw [hi0]; simp [hzs]
  have hold : (Builtin.firstCells i0.size 0 (.slice (some ⟨b, off, none⟩) 0 c)).run Tryd.prog w.drew = .ok (([] : List Value)).toArray w.drew := by
    simp [Builtin.firstCells, loadCells, loadCellsFrom]
  obtain ⟨G, hG⟩ : ∃ G, G = grownCap w (n + 1) c 26 := ⟨_, rfl⟩
  have hGn : n + 1 ≤ G := by rw [hG]; exact grownCap_ge w _ _ _
  have hGm : G ≤ maxLen := by rw [hG]; exact grownCap_le_maxLen w (n + 1) c _ (by unfold maxLen; omega)
  have hrz := Lib.run_append_grow_zeros w 27 3 27 26 i0 z .i64 .i64 ht Tryd.underlying3 hi0 hz0 (some ⟨b, off, none⟩) 0 c [] hold (n + 1) (by omega) (by omega) (by omega) (by omega) (by rw [hzb]; omega) (by rw [hzb, Nat.zero_add]; exact growslice_fits hcn (by omega))
  rw [Nat.zero_add, ← hG] at hrz
  obtain ⟨ROW, hROW⟩ : ∃ ROW : Array Value, ROW = ([] : List Value).toArray ++ Builtin.zeroCells z.cells (n + 1) ++ Builtin.zeroCells z.cells (G - (n + 1)) := ⟨_, rfl⟩
  rw [← hROW] at hrz
  have hRz : ROW.size = G * 4 := by
    rw [hROW]
    simp only [Array.size_append, zeroCells_size, hzc, List.size_toArray, List.length_nil]
    omega
  have hm1 : Nat.min 1 (n + 1) = 1 := Nat.min_eq_left (by omega)
  have hm2 : Nat.min n n = n := Nat.min_eq_left (by omega)
  have hkk : ((n + 1 : Nat) : Int) = (n : Int) + 1 := by omega
  rw [hkk] at hrz
  obtain ⟨W1, hW1⟩ : ∃ W1, W1 = w.drew.alloc (.cells ROW 26) := ⟨_, rfl⟩
  have hg1 : W1.heap[w.heap.size]? = some (.cells ROW 26 (0, 0)) := by rw [hW1]; exact heap_alloc_new w.drew _
  rw [← hW1] at hrz
  have hvw : vb < w.heap.size := lt_of_cell (hxs 0 _ (List.getElem?_eq_getElem (by omega)))
  have hbw : b < w.heap.size := lt_of_cell (hcs 0 _ (List.getElem?_eq_getElem (by omega)))
  have hB1 : Below w.heap.size w W1 := by rw [hW1]; exact (Below.refl _ _).drew.alloc (Nat.le_refl _) _
  have hcpA := fun ty dc => run_copyK W1 27 27 ty 26 w.heap.size 0 (n + 1) dc 4 ⟨vb, 0, none⟩ 1 1 ROW 26 xs ht hsM hg1 (by rw [hxl, hm1])
    (fun j v hj => by rw [Addr.add_lit]; exact cell_keep hB1 (hxs j v hj)) (by omega) h1x
  obtain ⟨R2, hR2⟩ : ∃ R2 : Array Value, R2 = (ROW.toList.take 0 ++ xs ++ ROW.toList.drop (0 + xs.length)).toArray := ⟨_, rfl⟩
  obtain ⟨W2, hW2⟩ : ∃ W2, W2 = W1.setRow w.heap.size R2 := ⟨_, rfl⟩
  rw [← hR2, ← hW2] at hcpA
  have hg2 : W2.drew.heap[w.heap.size]? = some (.cells R2 26 (0, 0)) := by rw [hW2]; exact setRow_heap W1 _ _ _ _ _ hg1
  have hB2 : Below w.heap.size w W2.drew := by rw [hW2]; exact (below_setRow hB1 (Nat.le_refl _) _).drew
  have hR2z : R2.size = G * 4 := by rw [hR2]; simp; omega
  have hcpB := fun ty dc => run_copyK W2.drew 27 27 ty 26 w.heap.size 4 n dc 4 ⟨b, off, none⟩ n c R2 26 cs ht hsM hg2 (by rw [hcl, hm2])
    (fun j v hj => by rw [Addr.add_lit]; exact cell_keep hB2 (hcs j v hj)) (by omega) h1c
  obtain ⟨R3, hR3⟩ : ∃ R3 : Array Value, R3 = (R2.toList.take 4 ++ cs ++ R2.toList.drop (4 + cs.length)).toArray := ⟨_, rfl⟩
  obtain ⟨W3, hW3⟩ : ∃ W3, W3 = W2.drew.setRow w.heap.size R3 := ⟨_, rfl⟩
  rw [← hR3, ← hW3] at hcpB
  have hg3 : W3.heap[w.heap.size]? = some (.cells R3 26 (0, 0)) := by rw [hW3]; exact setRow_heap W2.drew _ _ _ _ _ hg2
  have hB3 : Below w.heap.size w W3 := by rw [hW3]; exact below_setRow hB2 (Nat.le_refl _) _
  have hOwn : W3.ownsRow w.heap.size 26 4 (.slice (some ⟨w.heap.size, 0, none⟩) (n + 1) G) (n + 1) (xs ++ cs) := by
    refine ⟨by rw [List.length_append, hxl, hcl]; omega, .inr ⟨w.heap.size, G, R3, rfl, Nat.le_refl _, hg3, hGn, hGm, by rw [hR3]; simp; omega, ?_⟩⟩
    have h2 : R2.toList.take 4 = xs := by rw [hR2]; simp [← hxl]
    rw [hR3]
    show ((R2.toList.take 4 ++ cs ++ _).take _) = _
    rw [h2, List.take_append_of_le_length (by rw [List.length_append, hxl, hcl]; omega), List.take_of_length_le (by rw [List.length_append, hxl, hcl]; omega)]
  have HO := Lib.hid hOwn
  have HB := Lib.hid hB3
  have HA := Lib.hid hcpA
  have HC := Lib.hid hcpB
  have HR := Lib.hid hrz
  have hG0 : ¬ (G = 0) := by omega
  have hG1 : ¬ (G = 1) := by omega
  have hc0 : ¬ (c = 0) := by omega
  have hn0' : ¬ ((0 : Int) = (n : Int)) := by omega
  have hz3 : (c : Int) < (n : Int) + 1 := by omega
  rw [hm1] at HA
  rw [hm2] at HC
  clear hOwn hB3 hcpA hcpB hrz hg1 hg2 hg3 hB1 hB2 hW1 hW2 hW3 hR2 hR3 hR2z hRz hROW hG hkk hold hm1 hm2 hi0 hz0 hzs hzb hzc hcs hxs h1c h1x hcl hxl hGm
  have hca := HA.out 3 G
  go_enter Tryd.func38, Tryd.ntmps38
  go_wp2_with (first
    | (at_builtin; refine wpList_app1 rfl _ _ _ _ rfl _ _ rfl rfl HR.out ?_))
  have hb1 : (1 : Int) ≤ (n : Int) + 1 := by omega
  have hw1 : IntKind.i64.wrap 1 = 1 := by decide
  have hb2 : (0 : Int) ≤ (n : Int) + 1 := by omega
  have hb3 : 1 ≤ n + 1 := by omega
  have hb4 : (0 : Int) ≤ (n : Int) := by omega
  go_region_law (refine step_copy1 rfl (.tmp 50) (.tmp 53) 27 27 rfl (.slice (some ⟨w.heap.size, 4, none⟩) n (G - 1)) (.slice (some ⟨b, off, none⟩) n c) (by simp [Act.eval, Act.put]) (by simp [Act.eval, Act.put]) (HC.out _ _) ?_)
  all_goals
    go_wp2
    go_ret
    exact ⟨_, rfl, HO.out, HB.out⟩

set_option maxRecDepth 100000 in
set_option maxHeartbeats 4000000 in
theorem insert_room (b n c vb base : Nat) (cur : Array Value) (cs xs : List Value) (w : World) (hb0 : base ≤ b) (hn0 : 0 < n) (hnc : n + 1 ≤ c) (hcm : c ≤ maxLen) (hbig : n ≤ 1099511627776) (hcl : cs.length = n * 4) (hxl : xs.length = 4) (hvb : vb ≠ b)
    (hh : w.heap[b]? = some (.cells cur 26 (0, 0))) (hcz : cur.size = c * 4) (hct : cur.toList.take (n * 4) = cs) (hx : Blk w vb 26 xs.toArray) (h1c : ∀ v ∈ cs, v.oneCell' = true) (h1x : ∀ v ∈ xs, v.oneCell' = true) :
    Calls Tryd.prog 38 #[.slice (some ⟨b, 0, none⟩) n c, .int .i64 0, .slice (some ⟨vb, 0, none⟩) 1 1] w fun e w' =>
      ∃ v', e = .returned v' ∧ w'.ownsRow base 26 4 v' (n + 1) (xs ++ cs) ∧ Below base w w' := by
  obtain ⟨ht, hsz, i0, z, hi0, hz0, hzs, hzb, hzc⟩ := elMod
  have hsM : (Tryd.prog.info? 26).map (·.size) = some 4 := by rw [hi0]; simp [hzs]
  have hm1 : Nat.min 1 (n + 1) = 1 := Nat.min_eq_left (by omega)
  have hm2 : Nat.min (n + 1) n = n := Nat.min_eq_right (by omega)
  have hcells : ∀ j v, cs[j]? = some v → w.cell? ⟨b, 0 + j, none⟩ = some v := fun j v hj => by
    rw [Nat.zero_add, cell_of_row w b j cur _ (0, 0) hh]
    rw [← hct, List.getElem?_take] at hj
    split at hj
    · simpa using hj
    · cases hj
  have hov := overlapsM w ⟨vb, 0, none⟩ ⟨b, 4, none⟩ 1 1 n (c - 1) hvb 26 26 4 (c * 4) (by unfold Blk at hx; simp [World.shape?, hx, hxl]) (by simp [World.shape?, hh, hcz]) (by omega) (hx.free 0) (hx.free 4)
  have hg1 : w.drew.heap[b]? = some (.cells cur 26 (0, 0)) := hh
  have hcpA := fun ty dc sc => run_copyK w.drew 27 27 ty 26 b 4 n dc 4 ⟨b, 0, none⟩ (n + 1) sc cur 26 cs ht hsM hg1 (by rw [hcl, hm2])
    (fun j v hj => by rw [Addr.add_lit]; exact hcells j v hj) (by omega) h1c
  obtain ⟨R2, hR2⟩ : ∃ R2 : Array Value, R2 = (cur.toList.take 4 ++ cs ++ cur.toList.drop (4 + cs.length)).toArray := ⟨_, rfl⟩
  obtain ⟨W2, hW2⟩ : ∃ W2, W2 = w.drew.setRow b R2 := ⟨_, rfl⟩
  rw [← hR2, ← hW2] at hcpA
  have hg2 : W2.heap[b]? = some (.cells R2 26 (0, 0)) := by rw [hW2]; exact setRow_heap w.drew _ _ _ _ _ hg1
  have hB2 : Below base w W2 := by rw [hW2]; exact below_setRow (Below.refl _ _).drew hb0 _
  have hR2z : R2.size = c * 4 := by rw [hR2]; simp; omega
  have hx2 : Blk W2 vb 26 xs.toArray := by rw [hW2]; exact (setRow_far w.drew b R2 hvb).trans hx
  have hcpB := fun ty dc => run_copyK W2 27 27 ty 26 b 0 (n + 1) dc 4 ⟨vb, 0, none⟩ 1 1 R2 26 xs ht hsM hg2 (by rw [hxl, hm1])
    (fun j v hj => by rw [Addr.add_lit, Nat.zero_add, hx2.cell j]; simpa using hj) (by omega) h1x
  obtain ⟨R3, hR3⟩ : ∃ R3 : Array Value, R3 = (R2.toList.take 0 ++ xs ++ R2.toList.drop (0 + xs.length)).toArray := ⟨_, rfl⟩
  obtain ⟨W3, hW3⟩ : ∃ W3, W3 = W2.setRow b R3 := ⟨_, rfl⟩
  rw [← hR3, ← hW3] at hcpB
  have hg3 : W3.heap[b]? = some (.cells R3 26 (0, 0)) := by rw [hW3]; exact setRow_heap W2 _ _ _ _ _ hg2
  have hB3 : Below base w W3 := by rw [hW3]; exact below_setRow hB2 hb0 _
  have hOwn : W3.ownsRow base 26 4 (.slice (some ⟨b, 0, none⟩) (n + 1) c) (n + 1) (xs ++ cs) := by
    refine ⟨by rw [List.length_append, hxl, hcl]; omega, .inr ⟨b, c, R3, rfl, hb0, hg3, hnc, hcm, by rw [hR3]; simp; omega, ?_⟩⟩
    have h2 : R2.toList.drop 4 = cs ++ cur.toList.drop (4 + cs.length) := by
      rw [hR2]
      show (cur.toList.take 4 ++ cs ++ cur.toList.drop (4 + cs.length)).drop 4 = _
      rw [List.append_assoc, List.drop_append_of_le_length (by simp; omega), List.drop_of_length_le (by simp; omega), List.nil_append]
    rw [hR3]
    show ((R2.toList.take 0 ++ xs ++ R2.toList.drop (0 + xs.length)).take _) = _
    rw [hxl, Nat.zero_add, h2, List.take_zero, List.nil_append, ← List.append_assoc, List.take_append_of_le_length (by rw [List.length_append, hxl, hcl]; omega), List.take_of_length_le (by rw [List.length_append, hxl, hcl]; omega)]
  have HO := Lib.hid hOwn
  have HB := Lib.hid hB3
  have HA := Lib.hid hcpA
  have HC := Lib.hid hcpB
  rw [hm2] at HA
  rw [hm1] at HC
  have hcb := HC.out 3 c
  have hG1 : ¬ (c = 1) := by omega
  have hc0 : ¬ (c = 0) := by omega
  have hn0' : ¬ ((0 : Int) = (n : Int)) := by omega
  have hz3 : ¬ ((c : Int) < (n : Int) + 1) := by omega
  have hz4 : (n : Int) + 1 ≤ (c : Int) := by omega
  have hz5 : (0 : Int) ≤ (n : Int) + 1 := by omega
  have hz6 : ((n : Int) + 1).toNat = n + 1 := by omega
  clear hOwn hB3 hcpA hcpB hg1 hg2 hg3 hB2 hW2 hW3 hR2 hR3 hR2z hm1 hm2 hi0 hz0 hzs hzb hzc hcells h1c h1x hcl hxl hcz hct hh hx2 hcm
  have hb1 : (1 : Int) ≤ (n : Int) + 1 := by omega
  have hw1 : IntKind.i64.wrap 1 = 1 := by decide
  have hb3 : 1 ≤ n + 1 := by omega
  have hb4 : (0 : Int) ≤ (n : Int) := by omega
  go_enter Tryd.func38, Tryd.ntmps38
  go_wp2_with (simp only [hov])
  go_region_law (refine step_copy1 rfl (.tmp 73) (.tmp 76) 27 27 rfl (.slice (some ⟨b, 4, none⟩) n (c - 1)) (.slice (some ⟨b, 0, none⟩) (n + 1) c) (by simp [Act.eval, Act.put]) (by simp [Act.eval, Act.put]) (HA.out _ _ _) ?_)
  all_goals
    go_wp2
    go_ret
    exact ⟨_, rfl, HO.out, HB.out⟩

theorem insert_any (n vb base : Nat) (v : Value) (L : List Mod) (x : Mod) (w : World) (hacc : Acc w base 26 4 v n (L.flatMap encM)) (hn : 0 < n) (hbig : n ≤ 1099511627776) (hb : base ≤ w.heap.size)
    (hx : Blk w vb 26 (modA x)) (hne : v.ownBlock ≠ some vb) :
    Calls Tryd.prog 38 #[v, .int .i64 0, .slice (some ⟨vb, 0, none⟩) 1 1] w fun e w' =>
      ∃ A' c', e = .returned (.slice A' (n + 1) c') ∧ w'.ownsRow base 26 4 (.slice A' (n + 1) c') (n + 1) ((x :: L).flatMap encM) ∧ Below base w w' := by
  have hlen := hacc.length
  have h1x := encM_one1 x
  have h1c := encM_one L
  have hx' : Blk w vb 26 (encM x).toArray := hx
  have hxs : ∀ j u, (encM x)[j]? = some u → w.cell? ⟨vb, 0 + j, none⟩ = some u := fun j u hj => by
    rw [Nat.zero_add, hx'.cell j]
    simpa using hj
  have fin : ∀ {B : Nat}, base ≤ B → ∀ {e : Ending} {w' : World}, (∃ v', e = .returned v' ∧ w'.ownsRow B 26 4 v' (n + 1) (encM x ++ L.flatMap encM) ∧ Below B w w') →
      ∃ A' c', e = .returned (.slice A' (n + 1) c') ∧ w'.ownsRow base 26 4 (.slice A' (n + 1) c') (n + 1) ((x :: L).flatMap encM) ∧ Below base w w' := fun hB e w' ⟨v', h1, h2, h3⟩ => by
    obtain ⟨A', c', rfl⟩ := Acc.shape (.inl h2)
    exact ⟨A', c', h1, own_less h2 hB, h3.mono hB⟩
  rcases hacc with hown | ⟨hl, g, off, rfl, hlt, hcs⟩
  · have hw := hown
    rcases hown.2 with ⟨_, h0⟩ | ⟨g, cap, cur, rfl, hbase, hh, hnc, hcm, hcz, hct⟩
    · omega
    · by_cases hc : cap < n + 1
      · exact (insert_grow g 0 n cap vb (L.flatMap encM) (encM x) w hn hnc hc hbig hlen rfl (fun j u hj => by
          have hj2 : j < n * 4 := by rw [← hlen]; exact (List.getElem?_eq_some_iff.1 hj).1
          rw [Nat.zero_add, hw.cellAt j hj2]
          exact hj) hxs h1c h1x).mono fun e w' h => fin hb h
      · exact (insert_room g n cap vb base cur (L.flatMap encM) (encM x) w hbase hn (by omega) hcm hbig hlen rfl (fun e => hne (by rw [e]; rfl)) hh hcz hct hx' h1c h1x).mono fun e w' h => fin (Nat.le_refl _) h
  · exact (insert_grow g off n n vb (L.flatMap encM) (encM x) w hn (Nat.le_refl _) (by omega) hbig hlen rfl hcs hxs h1c h1x).mono fun e w' h => fin hb h
end Go.Proofs.YtfiilbdkhelhgaaDoor
