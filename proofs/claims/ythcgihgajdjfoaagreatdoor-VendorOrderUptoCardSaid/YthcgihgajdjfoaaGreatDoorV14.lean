/- What the claim needs of: WS WU. -/
import Derived.Test.YthcgihgajdjfoaaGreatDoorV13
import Derived.RangeFuncNested
import Derived.RangeFuncBound
import Derived.RangeFuncCalls
import Derived.RangeFuncLeaves
import Derived.RangeFuncFrom
import Derived.RangeFuncBox
import Derived.Shelf.Abstract
import Derived.Shelf.RegionOpen
import Derived.OwnWalkIn
import Derived.TacticsInMore
import Derived.LoopNIn
import Derived.LoopIn
import Derived.Maps.AppendAt
import Derived.Lib.AppendStr
import Derived.Deep.DeepMust
namespace Go.Proofs.YthcgihgajdjfoaaGreatDoor
open Go.RowKit Go.Shelf
attribute [local go_sem] Oper.semAt_some
abbrev Pc := { x : List UInt8 // x.length ≤ 4 }
def escP (c : UInt8) : Pc := ⟨escB c, (escB_len c).1⟩
def cat (pre : List Pc) : List UInt8 := pre.flatMap (·.1)
theorem cat_snoc (pre : List Pc) (x : Pc) : cat (pre ++ [x]) = cat pre ++ x.1 := by simp [cat]
theorem cat_len (pre : List Pc) : (cat pre).length ≤ 4 * pre.length := by
 unfold cat
 induction pre with
 | nil => simp
 | cons x pre ih => have := x.2; simp only [List.flatMap_cons, List.length_append, List.length_cons]; omega
theorem cat_esc (l : List UInt8) : cat (l.map escP) = escL l := by simp [cat, escL, List.flatMap_map, escP]
def KpS (B : Nat) (A W : World) : Prop := W.cell? ⟨B, 0, none⟩ = A.cell? ⟨B, 0, none⟩
theorem grownBy_of_below {w w' : World} (hb : Below w.heap.size w w') (row : Option Nat) : w.grownBy w' row := ⟨hb.os, hb.tape, hb.output, hb.size, fun k hk _ => hb.block k hk⟩
theorem take_map_snoc (l : List UInt8) (k : Nat) (h : k < l.length) : (l.take (k + 1)).map escP = (l.take k).map escP ++ [escP l[k]] := by
 rw [List.take_succ_eq_append_getElem h, List.map_append]; rfl
set_option maxRecDepth 100000 in
set_option maxHeartbeats 1000000 in
theorem pieces1_in (n : Nat) (hn : 1 ≤ n) (l Bs : Nat) (s : List UInt8) (hs : s.length ≤ 1099511627776) (J Jx : List Pc → World → Prop) (W0 : World) (hJ : AbidesFrom W0.heap.size J)
  (hY : ∀ pre x W, J pre W → pre.length < s.length → YieldAt Fence.wide (n - 1) Tryz.prog l #[.string ⟨x.1.toArray⟩] W fun e W' =>
   (e = .returned (.bool true) ∧ J (pre ++ [x]) W' ∧ KpS Bs W W') ∨ (e = .returned (.bool false) ∧ Jx (pre ++ [x]) W'))
  (hB : W0.cell? ⟨Bs, 0, none⟩ = some (.string ⟨s.toArray⟩)) (h0 : J [] W0) :
  CallsIn Fence.wide n Tryz.prog 139 #[.func (.yield l) #[] #[], .pointer (some ⟨Bs, 0, none⟩)] W0 fun e W' => (∃ v, e = .returned v) ∧
   ((∃ xs, xs = s.map escP ∧ J xs W') ∨ (∃ pre, True ∧ Jx pre W')) := by
 refine callsIn_of_wp Tryz.func139 rfl trivial ?_ rfl
 simp only [Tryz.ntmps139, List.size_toArray, List.length_cons, List.length_nil, Nat.reduceAdd, Nat.reduceSub, Array.replicate_succ, Array.replicate_zero, List.push_toArray, List.append_toArray, List.nil_append, List.cons_append]
 have hJh := Lib.hid hJ
 have hYh := Lib.hid hY
 clear hJ hY
 gi_wp2
 gi_loopw [6] (fun i wr => ∃ k : Nat, k ≤ s.length ∧ i = .int .i64 (k : Nat) ∧ wr.cell? ⟨Bs, 0, none⟩ = some (.string ⟨s.toArray⟩) ∧ J ((s.take k).map escP) wr) (fun i _ => s.length - (intOf i).toNat)
 case atStart => exact ⟨0, Nat.zero_le _, rfl, hB, by simpa using h0⟩
 case round =>
  obtain ⟨k, hk, rfl, hc, hJk⟩ := hrel
  by_cases hlt : k < s.length
  ·have ce := fun W => escape_any s[k] W
   have HN := Lib.hid (take_map_snoc s k hlt)
   have hpl : ((s.take k).map escP).length < s.length := by simp; omega
   have hg := Lib.hid (show ({ data := s.toArray } : ByteArray)[k] = s[k] from rfl)
   generalize s[k] = c at ce HN hg
   generalize (s.take k).map escP = pre at hJk HN hpl
   have ceh := Lib.hid ce
   clear ce
   gi_wp2_with (refine ⟨trivial, ?_⟩; gi_at_call 140; rw [hg.out]; refine (callsIn_wide.2 (ceh.out _)).mono ?_; rintro e w1 ⟨rfl, hb⟩
                have hJ1 := hJh.out pre wr w1 none hJk (grownBy_of_below hb.toBelow none) (fun r e => by cases e)
                have hc1 := cell_keep hb.toBelow hc
                obtain ⟨fn, tmps, assign, body, hy, hR⟩ := hYh.out pre (escP c) w1 hJ1 hpl
                dsimp only [escP] at hy)
   refine hR.mono ?_
   rintro e W3 (⟨rfl, hJ3, hk3⟩ | ⟨rfl, hJx3⟩)
   ·gi_wp2
    go_roundw
    case rel => exact ⟨k + 1, by omega, by go_num, hk3.trans hc1, by rw [HN.out]; exact hJ3⟩
    case measure => simp [intOf]; omega
   ·gi_wp2
    refine bodyPost_ret (results_none rfl _ _ _) rfl ?_
    exact ⟨⟨_, rfl⟩, .inr ⟨_, trivial, hJx3⟩⟩
  ·obtain rfl : k = s.length := by omega
   gi_wp2
   go_end0
   exact ⟨⟨_, rfl⟩, .inl ⟨_, rfl, by simpa using hJk⟩⟩
set_option maxHeartbeats 1000000 in
theorem pieces_any (s : List UInt8) (w : World) :
  Calls Tryz.prog 107 #[.string ⟨s.toArray⟩] w fun e w' => e = .returned (.func (.func 139) #[] #[.pointer (some ⟨w.heap.size, 0, none⟩)]) ∧ w' = w.alloc (.cells #[.string ⟨s.toArray⟩] 9) := by
 go_enter Tryz.func107, Tryz.ntmps107
 go_wp2
 go_ret
 exact ⟨rfl, rfl⟩
theorem pieces_stops (n : Nat) (hn : 1 ≤ n) (Bs : Nat) (s : List UInt8) (hs : s.length ≤ 1099511627776) (w : World) (hBs : Bs < w.heap.size) (hc : w.cell? ⟨Bs, 0, none⟩ = some (.string ⟨s.toArray⟩)) :
  SeqStopsK Fence.wide n Tryz.prog 139 #[.pointer (some ⟨Bs, 0, none⟩)] (fun x : Pc => #[Value.string ⟨x.1.toArray⟩]) (KpS Bs) (fun xs => xs = s.map escP) (fun _ => True) s.length w := fun l J Jx W hW hJ _ hY h0 =>
 pieces1_in n hn l Bs s hs J Jx W hJ hY ((hW.cell (p := ⟨Bs, 0, none⟩) hBs).trans hc) h0
theorem appended2 {W w1 : World} {n₀ B : Nat} {t e : TypeId} {size : Nat} {v v' : Value} {k m : Nat} {xs ys : List Value}
  (hv : Boxed W B t v) (hte : t ≠ e) (hrow : W.ownsRow n₀ e size v k xs) (hn₀ : n₀ ≤ W.heap.size) (hB : n₀ ≤ B)
  (hown' : w1.ownsRow n₀ e size v' m ys) (hgrow : W.grownBy w1 v.ownBlock) :
  Boxed w1 B t v ∧ Boxed (w1.setCell ⟨B, 0, none⟩ v') B t v' ∧ (w1.setCell ⟨B, 0, none⟩ v').ownsRow n₀ e size v' m ys ∧ KeepsOthers W (w1.setCell ⟨B, 0, none⟩ v') ∧ Below n₀ W (w1.setCell ⟨B, 0, none⟩ v') := by
 have hv1 : Boxed w1 B t v := hv.kept hgrow (hv.not_row hte hrow)
 refine ⟨hv1, hv1.set v', hown'.kept (grownBy_setCell' w1 B v') (.inr (hv1.not_row hte hown').symm), ?_, ?_⟩
 ·refine (KeepsOthers.of_grownBy hgrow fun j o ej hj => ?_).trans (KeepsOthers.setCell _ _ _)
  rcases hrow.2 with ⟨rfl, _⟩ | ⟨g, cap, cur, rfl, _, hgb, _⟩
  ·simp [Value.ownBlock] at ej
  ·obtain rfl : g = j := by simpa [Value.ownBlock] using ej
   rw [hgb] at hj; cases hj; rfl
 ·refine ((Below.refl n₀ W).grown hgrow hn₀ fun j ej => ?_).setCell (p := ⟨B, 0, none⟩) hB v'
  rcases hrow.2 with ⟨rfl, _⟩ | ⟨g, cap, cur, rfl, hb, _, _⟩
  ·simp [Value.ownBlock] at ej
  ·obtain rfl : g = j := by simpa [Value.ownBlock] using ej
   exact hb
theorem boxed_kept_row {W W' : World} {B : Nat} {t e : TypeId} {u v : Value} {n₀ size k : Nat} {xs : List Value} (h : Boxed W B t u) (hte : t ≠ e) (hr : W.ownsRow n₀ e size v k xs) (hg : W.grownBy W' v.ownBlock) : Boxed W' B t u := h.kept hg (h.not_row hte hr)
theorem boxed_own2 {β : Type} (B : Nat) (t : TypeId) (v : Value) : Own (fun (_ : β) W => Boxed W B t v) := by
 rintro s X Y row hv hg hrow
 refine hv.kept hg (fun e' => ?_)
 obtain ⟨o, ho, hc⟩ := hrow B e'.symm
 rw [show X.heap[B]? = _ from hv] at ho; cases ho; cases hc
theorem wpListIn_append_str {F : Fence} {n' : Nat} {P : Program} {ops : Array Oper} {rest : List Oper} {o : Oper} {a : Act} {Q : Exit → Act → World → Prop} (w : World) (hgd : o.guard = none) (sl x : Operand) (t u : TypeId)
  (ho : o.op = .call { callee := .builtin .append, args := #[sl, x], argTypes := #[t, u] })
  (base : Nat) (e : TypeId) (i : TypeInfo) (ht : P.underlying t = some (.slice e)) (hu : P.underlying u = some .string) (hi : P.info? e = some i) (hz : i.zero = some (.int .u8 0))
  (hsize : i.size = 1) (hby : i.bytes = 1)
  (v : Value) (n : Nat) (xs : List Value) (hs : a.eval sl = v) (hown : w.ownsRow base e 1 v n xs) (s : ByteArray) (hx : a.eval x = .string s)
  (h63 : n + s.size ≤ maxLen) (hbytes : n + s.size ≤ 140737488355328) (hbase : base ≤ w.heap.size)
  (h : ∀ v' w', w'.ownsRow base e 1 v' (n + s.size) (xs ++ Lib.strCells s) → w.grownBy w' v.ownBlock → (v' = .slice none 0 0 ↔ v = .slice none 0 0 ∧ s.size = 0) → wpListIn F n' P ops Q rest (a.put o.dst v') w') : wpListIn F n' P ops Q (o :: rest) a w := by
 refine wpListIn_plain hgd fun K hK => ?_
 obtain ⟨v', w', hr, h2, h3, h4⟩ := Lib.run_append_own_string (P := P) w base t u o.type e i ht hu hi hz hsize hby v n xs hown s h63 hbytes hbase
 unfold Oper.wpIn
 refine ⟨?_, ?_⟩
 ·simp [Oper.about, ho, resolve, Target.leads, Sem.run_pure]
 ·rw [Oper.semAt_plain F _ _ (by rw [ho]; intro c hc'; cases hc')]
  simp [execOp, ho, resolve, invoke, builtin, hs, hx, hr, Result.andThen]
  exact hK _ _ (h v' w' h2 h3 h4)
theorem strCells_eq (l : List UInt8) : Lib.strCells ⟨l.toArray⟩ = u8s l := by simp [Lib.strCells, u8s]
theorem infoU8 : (Tryz.prog.info? 5).map (fun i => (i.zero, i.size, i.bytes)) = some (some (.int .u8 0), 1, 1) := by kernel_rfl
theorem ownsRow_pos {W : World} {base : Nat} {e : TypeId} {size : Nat} {v : Value} {k : Nat} {xs : List Value} (h : W.ownsRow base e size v k xs) (hk : 0 < k) : ∃ g cap, v = .slice (some ⟨g, 0, none⟩) k cap := by
 rcases h.2 with ⟨_, h0⟩ | ⟨g, cap, _, rfl, _⟩
 ·omega
 ·exact ⟨g, cap, rfl⟩
theorem ko_append {W w1 : World} {n₀ : Nat} {e : TypeId} {size : Nat} {v : Value} {k : Nat} {xs : List Value} {tmp : Obj} (hrow : W.ownsRow n₀ e size v k xs) (hgrow : (W.alloc tmp).grownBy w1 v.ownBlock) : KeepsOthers W w1 := by
 refine (KeepsOthers.alloc W tmp).trans (KeepsOthers.of_grownBy hgrow fun j o ej hj => ?_)
 rcases (hrow.alloc tmp).2 with ⟨rfl, _⟩ | ⟨g, cap, cur, rfl, _, hgb, _⟩
 ·simp [Value.ownBlock] at ej
 ·obtain rfl : g = j := by simpa [Value.ownBlock] using ej
  rw [hgb] at hj; cases hj; rfl
theorem u8s_append (a b : List UInt8) : u8s a ++ u8s b = u8s (a ++ b) := by simp [u8s]
set_option maxRecDepth 100000 in
set_option maxHeartbeats 2000000 in
theorem Quote_in (s : List UInt8) (hs : s.length ≤ 1099511627776) (w : World) :
  CallsIn Fence.wide 3 Tryz.prog 64 #[.string ⟨s.toArray⟩] w fun e w' => e = .returned (.string ⟨(qtext s).toArray⟩) ∧ Below w.heap.size w w' := by
 obtain ⟨i0, hi, hz0, hz1, hz2⟩ := info_parts infoU8
 refine callsIn_of_wp_marks Tryz.func64 rfl trivial ?_ rfl
 simp only [Tryz.ntmps64, List.size_toArray, List.length_cons, List.length_nil, Nat.reduceAdd, Nat.reduceSub, Array.replicate_succ, Array.replicate_zero, List.push_toArray, List.append_toArray, List.nil_append, List.cons_append]
 gi_wp2_with (refine ⟨trivial, ?_⟩; gi_at_call 107; refine (callsIn_wide.2 (pieces_any s _)).mono ?_; rintro e w' ⟨rfl, rfl⟩)
 have bO := (Boxed.new (w.alloc (.cells #[.int .u8 34] 5)) 65 (.slice (some ⟨w.heap.size, 0, none⟩) 1 1)).alloc (.cells #[.string ⟨s.toArray⟩] 9)
 have bS := Boxed.new ((w.alloc (.cells #[.int .u8 34] 5)).alloc (.cells #[.slice (some ⟨w.heap.size, 0, none⟩) 1 1] 65)) 9 (.string ⟨s.toArray⟩)
 have bR : (((w.alloc (.cells #[.int .u8 34] 5)).alloc (.cells #[.slice (some ⟨w.heap.size, 0, none⟩) 1 1] 65)).alloc (.cells #[.string ⟨s.toArray⟩] 9)).ownsRow w.heap.size 5 1 (.slice (some ⟨w.heap.size, 0, none⟩) 1 1) 1 (u8s [34]) :=
  World.ownsRow.alloc (World.ownsRow.alloc (⟨rfl, .inr ⟨w.heap.size, 1, #[.int .u8 34], rfl, Nat.le_refl _, heap_alloc_new w _, Nat.le_refl _, by simp [maxLen], rfl, rfl⟩⟩ : (w.alloc (.cells #[.int .u8 34] 5)).ownsRow w.heap.size 5 1 (.slice (some ⟨w.heap.size, 0, none⟩) 1 1) 1 (u8s [34])) _) _
 have hB0 : Below w.heap.size w (((w.alloc (.cells #[.int .u8 34] 5)).alloc (.cells #[.slice (some ⟨w.heap.size, 0, none⟩) 1 1] 65)).alloc (.cells #[.string ⟨s.toArray⟩] 9)) := (((Below.refl _ w).alloc (Nat.le_refl _) _).alloc (by simp) _).alloc (by simp; omega) _
 rw [World.size_alloc] at bO
 simp only [World.size_alloc] at bS
 have hz : (((w.alloc (.cells #[.int .u8 34] 5)).alloc (.cells #[.slice (some ⟨w.heap.size, 0, none⟩) 1 1] 65)).alloc (.cells #[.string ⟨s.toArray⟩] 9)).heap.size = w.heap.size + 3 := by simp
 obtain ⟨W0, hW0⟩ : ∃ W0, (((w.alloc (.cells #[.int .u8 34] 5)).alloc (.cells #[.slice (some ⟨w.heap.size, 0, none⟩) 1 1] 65)).alloc (.cells #[.string ⟨s.toArray⟩] 9)) = W0 := ⟨_, rfl⟩
 rw [hW0] at bO bS bR hB0 hz ⊢
 clear hW0
 refine wpIn_rangeFunc_ownF rfl (by decide) (gf := 139) (lb := #[.pointer (some ⟨w.heap.size + 1 + 1, 0, none⟩)]) rfl trivial (enters_of Tryz.func139 (by kernel_rfl) rfl)
  (pieces_stops 2 (by decide) (w.heap.size + 1 + 1) s hs W0 (by omega) bS.cell) (fun h k => Eq.trans k h) (fun W l o o' hl ho h1 h2 => World.cell?_of_block (World.putObj_heap_other (by show w.heap.size + 1 + 1 ≠ l; omega))) (Below.refl _ _) (fun _ => rfl)
  (fun pre W => (∃ v, Boxed W (w.heap.size + 1) 65 v ∧ W.ownsRow w.heap.size 5 1 v (1 + (cat pre).length) (u8s ([34] ++ cat pre)) ∧ True) ∧ (Boxed W (w.heap.size + 1 + 1) 9 (.string ⟨s.toArray⟩) ∧ Below w.heap.size w W))
  (fun _ _ _ => False)
  (OwnFrom.and (Own.from (holdsRow_own w.heap.size (w.heap.size + 1) 65 5 1 (fun pre => 1 + (cat pre).length) (fun pre => u8s ([34] ++ cat pre)) (fun _ _ => True)) _) (OwnFrom.and (Own.from (boxed_own2 _ _ _) _) (ownFrom_below (Nat.le_refl _) (by omega))))
  (fun _ _ _ _ _ hs _ _ => hs)
  ⟨⟨_, bO, by simpa [cat] using bR, trivial⟩, bS, hB0⟩
  (fun x => { tmps := #[.string ⟨s.toArray⟩, undef, .string ⟨#[]⟩, .pointer (some ⟨w.heap.size + 1, 0, none⟩), .string ⟨x.1.toArray⟩, .slice (some ⟨w.heap.size, 0, none⟩) 1 1, .string ⟨s.toArray⟩, .func (.func 139) #[] #[.pointer (some ⟨w.heap.size + 1 + 1, 0, none⟩)], .string ⟨x.1.toArray⟩, undef, undef, undef, undef, undef, undef, undef], defers := [] }) ?assign ?body ?done ?stop
 case assign =>
  intro l x W K hK
  gi_wp2
  exact hK
 case body =>
  rintro l pre x W ⟨⟨v, hv, hrow, _⟩, hS, hB⟩ hlt
  have hc := hv.cell
  have hcl := cat_len pre
  have hx4 := x.2
  have hx : (⟨x.1.toArray⟩ : ByteArray).size = x.1.length := rfl
  have hle := hB.size
  have b1 : 1 + (cat pre).length + (⟨x.1.toArray⟩ : ByteArray).size ≤ 140737488355328 := by rw [hx]; omega
  have b0 : 1 + (cat pre).length + (⟨x.1.toArray⟩ : ByteArray).size ≤ maxLen := by unfold maxLen; omega
  clear hx
  gi_wp2_with (gi_at_builtin; go_must (refine wpListIn_append_str _ rfl (.tmp 9) (.tmp 10) 65 9 rfl w.heap.size 5 i0 Tryz.underlying65 Tryz.underlying9 hi hz0 hz1 hz2 v _ _ ?e1 hrow ⟨x.1.toArray⟩ ?e2 b0 b1 hle ?_; (try (case e1 => rfl)); (try (case e2 => rfl)); intro v' w1 hown' hgrow _; obtain ⟨g', cap', rfl⟩ := ownsRow_pos hown' (by omega); obtain ⟨hv1, hv2, hr2, hk2, hb2⟩ := appended2 hv (by decide) hrow hle (by omega) hown' hgrow; have hS1 := boxed_kept_row hS (by decide) hrow hgrow; have hc1 := hv1.cell; have hf1 := hv1.frozen))
  have hS2 := hS1.kept (grownBy_setCell' w1 (w.heap.size + 1) (Value.slice (some ⟨g', 0, none⟩) (1 + (cat pre).length + (⟨x.1.toArray⟩ : ByteArray).size) cap')) (by simp)
  have er : u8s ([34] ++ cat pre) ++ Lib.strCells ⟨x.1.toArray⟩ = u8s ([34] ++ cat (pre ++ [x])) := by rw [strCells_eq, u8s_append, cat_snoc, List.append_assoc]
  have el : 1 + (cat pre).length + (⟨x.1.toArray⟩ : ByteArray).size = 1 + (cat (pre ++ [x])).length := by rw [cat_snoc, List.length_append]; simp [ByteArray.size]; omega
  exact ⟨hk2, hS2.cell.trans hS.cell.symm, ⟨_, hv2, by rw [← el, ← er]; exact hr2, trivial⟩, hS2, hB.trans hb2⟩
 case done =>
  rintro D ys W hD rfl ⟨⟨v, hv, hrow, _⟩, hS, hB⟩ hK
  have hc := hv.cell
  have hcl := cat_len (s.map escP)
  simp only [List.length_map] at hcl
  have hle := hB.size
  have b1 : (1 + (cat (s.map escP)).length + 1) * 1 ≤ 140737488355328 := by omega
  have b0 : 1 + (cat (s.map escP)).length + 1 ≤ maxLen := by unfold maxLen; omega
  have hq : u8s ([34] ++ cat (s.map escP)) ++ [Value.int .u8 34] = u8s (qtext s) := by rw [cat_esc]; simp [u8s, qtext]
  have hq := Lib.hid hq
  gi_wp2_with (gi_at_builtin; go_must (refine wpListIn_append_own _ rfl (.tmp 12) (.tmp 13) 65 rfl w.heap.size 5 i0 (.int .u8 0) 1 1 Tryz.underlying65 hi hz0 hz1 hz2 rfl (by decide) v _ _ ?e1 (hrow.alloc _) ⟨W.heap.size, 0, none⟩ 1 1 [.int .u8 34] ?e2 rfl (cell_one_new _ _ _) (by simp [Value.oneCell']) b0 b1 (by simp; omega) ?_; (try (case e1 => rfl)); (try (case e2 => rfl)); intro v' w1 hown' hgrow _; obtain ⟨g', cap', rfl⟩ := ownsRow_pos hown' (by omega); have hko := ko_append hrow hgrow; rw [hq.out] at hown'; have hcv := Acc.str (base := w.heap.size) 65 9 (.inl hown') Tryz.underlying65 Tryz.underlying5 Tryz.underlying9))
  have hK1 := hko.same D _ hK rfl
  refine ⟨by simp, .inl ⟨_, _, rfl, run_takeDeferred hK1, ?_⟩⟩
  have hb1 : Below w.heap.size w w1 := (hB.alloc hle _).grown hgrow (by simp; omega) (fun k e => (hrow.lt k e).1)
  exact ⟨_, results_tmp rfl _ _ _, rfl, hb1.trans (belowK_b (w := w) (Nat.le_refl _) w1 D _ _ (by omega) hK1 rfl rfl)⟩
 case stop =>
  rintro D c pre W _ _ h _
  exact h.elim
theorem Quote_any (s : List UInt8) (hs : s.length ≤ 1099511627776) (w : World) :
  Calls Tryz.prog 64 #[.string ⟨s.toArray⟩] w fun e w' => e = .returned (.string ⟨(qtext s).toArray⟩) ∧ Below w.heap.size w w' := callsIn_wide.1 (Quote_in s hs w)
end Go.Proofs.YthcgihgajdjfoaaGreatDoor
namespace Go.Proofs.YthcgihgajdjfoaaGreatDoor
open Go.RowKit Go.Sort
def srcLines (l : List Src2) : List UInt8 := l.flatMap srcLine
theorem srcLines_take (l : List Src2) (k : Nat) (h : k < l.length) : srcLines (l.take (k + 1)) = srcLines (l.take k) ++ srcLine l[k] := by
 unfold srcLines
 rw [List.take_succ_eq_append_getElem h, List.flatMap_append]
 simp
theorem fnvs4 (m : Nat) (a b c d : List UInt8) : fnvs m [a, b, c, d] = fnv m (a ++ b ++ c ++ d) := by
 simp [fnvs, fnv_append]
theorem sl4 (w : World) (a b c d : List UInt8) (t : TypeId) : Sl (w.alloc (.cells #[.string ⟨a.toArray⟩, .string ⟨b.toArray⟩, .string ⟨c.toArray⟩, .string ⟨d.toArray⟩] t)) (w.alloc (.cells #[.string ⟨a.toArray⟩, .string ⟨b.toArray⟩, .string ⟨c.toArray⟩, .string ⟨d.toArray⟩] t)).heap.size 1 encS (some ⟨w.heap.size, 0, none⟩) [a, b, c, d] := by
 refine .inr ⟨w.heap.size, 0, rfl, by simp, fun i hi j v hv => ?_⟩
 match j, hv with
 | 0, hv =>
   simp [encS] at hv
   subst hv
   match i, hi with
   | 0, _ | 1, _ | 2, _ | 3, _ => simp
theorem sum4_any (q : Nat) (a b c d : List UInt8) (W : World) (hq : q < 18446744073709551616) (h : ∀ s ∈ [a, b, c, d], s.length ≤ maxLen) :
  Calls Tryz.prog 63 #[.int .u64 q, .slice (some ⟨W.heap.size, 0, none⟩) 4 4] (W.alloc (.cells #[.string ⟨a.toArray⟩, .string ⟨b.toArray⟩, .string ⟨c.toArray⟩, .string ⟨d.toArray⟩] 9)) fun e w' => e = .returned (.int .u64 (fnv q (a ++ b ++ c ++ d))) ∧ (W.alloc (.cells #[.string ⟨a.toArray⟩, .string ⟨b.toArray⟩, .string ⟨c.toArray⟩, .string ⟨d.toArray⟩] 9)) = w' := by
 have hh := sum_any q (some ⟨W.heap.size, 0, none⟩) 4 [a, b, c, d] _ (by simp [maxLen]) hq (sl4 W a b c d 9) h
 rw [fnvs4] at hh
 exact hh
theorem mtext_len (m : Mod) (l : List Mod) : (mtext m l).length ≤ 6500 := by
 unfold mtext
 split
 ·rename_i h
  obtain ⟨h1, h2⟩ := mcheck_ok m l h
  have h3 := lineM_len wMod m (by decide) (h2 m (by simp))
  have h4 := linesM_len (msort l) (fun x hx => h2 x (by simp; exact .inr ((List.mergeSort_perm l _).mem_iff.1 hx)))
  rw [msort_len] at h4
  simp; omega
 ·simp
theorem tsort_mem {l : List Src2} {x : Src2} (h : x ∈ tsort l) : x ∈ l := (List.mergeSort_perm l _).mem_iff.1 h
theorem tsort_len (l : List Src2) : (tsort l).length = l.length := List.length_mergeSort l
theorem dtext_len (n : Nat) : (dtext n).length = 18 := by simp [dtext, hexs_length]
set_option maxRecDepth 100000 in
set_option maxHeartbeats 4000000 in
theorem Release_any (m : Mod) (A : Option Addr) (c : Nat) (l : List Mod) (A' : Option Addr) (c' : Nat) (s : List Src2) (w : World) (hA : Sl w w.heap.size 4 encM A l) (hS : Sl w w.heap.size 2 encT A' s) (hl : l.length ≤ 1099511627776) (hsl : s.length ≤ 1099511627776)
  (hm : ∀ x ∈ m :: l, x.1.length ≤ maxLen) (hs : ∀ x ∈ s, x.1.length ≤ 1099511627776 ∧ x.2.length ≤ maxLen) (hG : Glob w) :
  Calls Tryz.prog 27 #[.agg #[.string ⟨m.1.toArray⟩, .int .i64 m.2.1, .int .i64 m.2.2.1, .int .i64 m.2.2.2, .slice A l.length c, .slice A' s.length c']] w fun e w' => e = .returned (.tuple #[.string ⟨(rtext (m, l, s)).toArray⟩, .int .i64 (rerr (m, l, s))]) ∧ Below w.heap.size w w' := by
 have hB0 : Below w.heap.size w (w.alloc (.cells #[.string ⟨m.1.toArray⟩, .int .i64 m.2.1, .int .i64 m.2.2.1, .int .i64 m.2.2.2, .slice A l.length c, .slice A' s.length c'] 62)) := (Below.refl _ _).alloc (Nat.le_refl _) _
 have cT := Lib.hid (mText_any m A c l (w.alloc (.cells #[.string ⟨m.1.toArray⟩, .int .i64 m.2.1, .int .i64 m.2.2.1, .int .i64 m.2.2.2, .slice A l.length c, .slice A' s.length c'] 62)) ((hA.below hB0).more (by simp)) hl hm (hG.alloc _))
 have cS := Lib.hid (fun (W : World) (hW : Below w.heap.size w W) => sources_any A' c' s W ((hS.below hW).more hW.size) hsl)
 have HG := Lib.hid hG
 have hre := Lib.hid (show rerr (m, l, s) = if mcheck m l ≠ 0 then mcheck m l else if dupN s = true then 6 else 0 from rfl)
 have hrt := Lib.hid (show rtext (m, l, s) = if rerr (m, l, s) = 0 then dtext (fnv fstart (mtext m l ++ srcLines (tsort s))) else [] from rfl)
 clear hA hS hG
 generalize rtext (m, l, s) = RT at hrt ⊢
 generalize rerr (m, l, s) = RE at hrt hre ⊢
 generalize mcheck m l = E at cT hre
 by_cases hE : E = 0
 ·have hre' := Lib.hid (show RE = if dupN s = true then 6 else 0 by rw [hre.out, hE]; rfl)
  clear hre
  subst hE
  go_enter Tryz.func27, Tryz.ntmps27
  go_wp2_with (first
   | (go_at_call 60; refine cT.out.mono ?_; rintro e w1 ⟨rfl, hb1⟩;
      have q0 := (Blk.new w 62 #[.string ⟨m.1.toArray⟩, .int .i64 m.2.1, .int .i64 m.2.2.1, .int .i64 m.2.2.2, .slice A l.length c, .slice A' s.length c']).keep hb1;
      have hB1 := Lib.hid (hB0.trans (hb1.mono (by simp))); clear hb1 hB0;
      have k5 := q0.cell 5; simp at k5; clear q0))
  refine (cS.out _ hB1.out).mono ?_
  rintro e w2 ⟨hb2, hcase⟩
  have hB2 := Lib.hid (hB1.out.trans (hb2.mono hB1.out.size))
  clear hb2 hB1
  rcases hcase with ⟨hd, rfl⟩ | ⟨hd, A2, c2, rfl, hS2⟩
  ·have hRE := Lib.hid (show RE = 6 by rw [hre'.out, if_pos hd])
   have hRT := Lib.hid (show RT = [] by rw [hrt.out, if_neg (by rw [hRE.out]; decide)])
   clear hrt hre' hd cS
   go_wp2
   refine bodyPost_ret (v := .tuple #[.string ⟨#[]⟩, .int .i64 6]) (by simp [results, Tryz.results27, go_sem]) rfl ?_
   exact ⟨by rw [hRT.out, hRE.out], hB2.out⟩
  ·have hRE := Lib.hid (show RE = 0 by rw [hre'.out, if_neg (by rw [hd]; decide)])
   have hRT := Lib.hid (show RT = dtext (fnv fstart (mtext m l ++ srcLines (tsort s))) by rw [hrt.out, if_pos hRE.out])
   have hL : (tsort s).length = s.length := tsort_len s
   have hsm := Lib.hid (fun x (hx : x ∈ tsort s) => hs x (tsort_mem hx))
   clear hrt hre' hd cS hs
   generalize tsort s = L at hS2 hL hsm hRT
   have hml := mtext_len m l
   generalize mtext m l = mt at hml hRT ⊢
   have cSum := Lib.hid (fun W => Sum_any mt W (by unfold maxLen; omega))
   go_wp2_with (go_at_call 62; refine (cSum.out _).mono ?_; rintro e w3 ⟨rfl, hb3⟩)
   have hB3 := Lib.hid (hB2.out.trans (hb3.mono hB2.out.size))
   have hS3 := (hS2.below hb3).more hb3.size
   clear hb3 hB2 hS2 cSum
   have hf := Lib.hid (show fnv fstart mt = fnv fstart (mt ++ srcLines (L.take 0)) by simp [srcLines])
   have hflt := fnv_lt fstart mt (by decide)
   generalize fnv fstart mt = m0 at hf hflt ⊢
   go_wp2
   clear cT hm
   go_loopw [8, 32] (fun v i wr => ∃ k q : Nat, k ≤ L.length ∧ i = .int .i64 (k : Nat) ∧ v = .int .u64 (q : Nat) ∧ q < 18446744073709551616 ∧ Hid (q = fnv fstart (mt ++ srcLines (L.take k))) ∧ Below w3.heap.size w3 wr) (fun _ i _ => L.length - (intOf i).toNat)
   case atStart => exact ⟨0, m0, Nat.zero_le _, rfl, rfl, hflt, hf, Below.refl _ _⟩
   case round =>
    obtain ⟨k, q, hk, rfl, rfl, hq, HF, hb⟩ := hrel
    have hbz := hb.size
    by_cases hlt : k < L.length
    ·have hlt' : (k : Int) < (s.length : Int) := by omega
     obtain ⟨b, off, rfl, hbB, g0, g1⟩ := (hS3.below hb).src2 hlt
     have HN := Lib.hid (srcLines_take L k hlt)
     obtain ⟨hx1, hx2⟩ := hsm.out L[k] (List.getElem_mem hlt)
     generalize L[k] = x at g0 g1 HN hx1 hx2
     obtain ⟨nm, tx⟩ := x
     simp only at g0 g1 hx1 hx2
     have cq := Lib.hid (fun W => Quote_any nm hx1 W)
     have cs := Lib.hid (fun W => Sum_any tx W hx2)
     have hft := fnv_lt fstart tx (by decide)
     have ct := Lib.hid (fun W => Text_any (fnv fstart tx) W hft)
     have hql := qtext_len nm
     have htl : (dtext (fnv fstart tx)).length ≤ 18 := Nat.le_of_eq (dtext_len _)
     have hln := Lib.hid (show srcLine (nm, tx) = qtext nm ++ [32] ++ dtext (fnv fstart tx) ++ [10] from rfl)
     generalize dtext (fnv fstart tx) = td at ct htl hln
     generalize fnv fstart tx = ft at cs ct hft
     generalize qtext nm = qn at cq hql hln
     have c4 := Lib.hid (fun W => sum4_any q qn [32] td [10] W hq (by
      intro z hz
      simp at hz
      unfold maxLen
      rcases hz with rfl | rfl | rfl | rfl <;> (try simp) <;> omega))
     go_wp2
     go_region_held3 (fun W => W.cell? ⟨wr.heap.size, 0, none⟩ = some (.string ⟨nm.toArray⟩) ∧ W.cell? ⟨wr.heap.size, 1, none⟩ = some (.string ⟨tx.toArray⟩)) (first | (simp; done) | (go_split_ands; (repeat' apply And.intro) <;> (first | assumption | (apply cell_keep; assumption; assumption) | (apply cell_keep_alloc; assumption))))
      (first | (go_at_call 64; refine (cq.out _).mono ?_; rintro e w4 ⟨rfl, hb4⟩) | (go_at_call 62; refine (cs.out _).mono ?_; rintro e w5 ⟨rfl, hb5⟩) | (go_at_call 65; refine (ct.out _).mono ?_; rintro e w6 ⟨rfl, hb6⟩) | (go_at_call 63; refine (c4.out _).mono ?_; rintro e w7 ⟨rfl, rfl⟩))
     have z4 := hb4.size
     have z5 := hb5.size
     have z6 := hb6.size
     simp at z4 z5 z6
     have hB7 := Lib.hid (((((hb.alloc hbz (.cells #[.string ⟨nm.toArray⟩, .string ⟨tx.toArray⟩] 64)).drew.trans (hb4.mono (by simp; omega))).trans (hb5.mono (by omega))).trans (hb6.mono (by omega))).alloc (by omega) (.cells #[.string ⟨qn.toArray⟩, .string ⟨#[32]⟩, .string ⟨td.toArray⟩, .string ⟨#[10]⟩] 9))
     have hqq := Lib.hid (show fnv q (qn ++ 32 :: (td ++ [10])) = fnv fstart (mt ++ srcLines (L.take (k + 1))) by rw [show qn ++ 32 :: (td ++ [10]) = qn ++ [32] ++ td ++ [10] by simp, HN.out, hln.out, ← List.append_assoc, fnv_append fstart (mt ++ srcLines (L.take k)), ← HF.out])
     have hqlt := fnv_lt q (qn ++ 32 :: (td ++ [10])) hq
     clear hb4 hb5 hb6
     generalize fnv q (qn ++ 32 :: (td ++ [10])) = q' at hqq hqlt ⊢
     go_wp2
     go_roundw
     case rel => exact ⟨k + 1, q', by omega, by go_num, rfl, hqlt, hqq, hB7.out⟩
     case measure => simp [intOf]; omega
    ·have hlt' : ¬ (k : Int) < (s.length : Int) := by omega
     have ct := Lib.hid (fun W => Text_any q W hq)
     have hfin := Lib.hid (show RT = dtext q by rw [hRT.out, HF.out, List.take_of_length_le (by omega)])
     generalize dtext q = td at ct hfin
     go_wp2_with (go_at_call 65; refine (ct.out _).mono ?_; rintro e w6 ⟨rfl, hb6⟩)
     refine bodyPost_ret (v := .tuple #[.string ⟨td.toArray⟩, .int .i64 0]) (by simp [results, Tryz.results27, go_sem]) rfl ?_
     exact ⟨by rw [hfin.out, hRE.out], hB3.out.trans ((hb.trans (hb6.mono hbz)).mono hB3.out.size)⟩
 ·have hE' : (E != 0) = true := by simpa using hE
  have hRE := Lib.hid (show RE = E by rw [hre.out, if_pos hE])
  have hRT := Lib.hid (show RT = [] by rw [hrt.out, if_neg (by rw [hRE.out]; exact hE)])
  clear hrt hre hE
  go_enter Tryz.func27, Tryz.ntmps27
  go_wp2_with (go_at_call 60; refine cT.out.mono ?_; rintro e w1 ⟨rfl, hb1⟩)
  refine bodyPost_ret (v := .tuple #[.string ⟨#[]⟩, .int .i64 E]) (by simp [results, Tryz.results27, go_sem]) rfl ?_
  exact ⟨by rw [hRT.out, hRE.out], hB0.trans (hb1.mono (by simp))⟩
end Go.Proofs.YthcgihgajdjfoaaGreatDoor
