/- Walks: the literal of a string (quote.pieces, quote.Quote: a range over a function). -/
import Derived.Test.YtabmidnamaaklaaGreatDoorWR
import Derived.RangeFuncNested
import Derived.RangeFuncBound
import Derived.RangeFuncCalls
import Derived.RangeFuncLeaves
import Derived.RangeFuncFrom
import Derived.RangeFuncBox
import Derived.Shelf.Abstract
import Derived.Shelf.RegionOpen
import Derived.OwnWalkIn
import Derived.TacticsInMore
import Derived.LoopNIn
import Derived.LoopIn
import Derived.Maps.AppendAt
import Derived.Lib.AppendStr
import Derived.Deep.DeepMust
namespace Go.Proofs.YtabmidnamaaklaaGreatDoor
open Go.RowKit Go.Shelf
attribute [local go_sem] Oper.semAt_some

/-- a piece of a literal -/
abbrev Pc := { x : List UInt8 // x.length ≤ 4 }
def escP (c : UInt8) : Pc := ⟨escB c, (escB_len c).1⟩
def cat (pre : List Pc) : List UInt8 := pre.flatMap (·.1)
theorem cat_snoc (pre : List Pc) (x : Pc) : cat (pre ++ [x]) = cat pre ++ x.1 := by simp [cat]
theorem cat_len (pre : List Pc) : (cat pre).length ≤ 4 * pre.length := by
  unfold cat
  induction pre with
  | nil => simp
  | cons x pre ih => have := x.2; simp only [List.flatMap_cons, List.length_append, List.length_cons]; omega
theorem cat_esc (l : List UInt8) : cat (l.map escP) = escL l := by simp [cat, escL, List.flatMap_map, escP]
/-- the iterator's own variable is kept -/
def KpS (B : Nat) (A W : World) : Prop := W.cell? ⟨B, 0, none⟩ = A.cell? ⟨B, 0, none⟩
theorem grownBy_of_below {w w' : World} (hb : Below w.heap.size w w') (row : Option Nat) : w.grownBy w' row := ⟨hb.os, hb.tape, hb.output, hb.size, fun k hk _ => hb.block k hk⟩
theorem take_map_snoc (l : List UInt8) (k : Nat) (h : k < l.length) : (l.take (k + 1)).map escP = (l.take k).map escP ++ [escP l[k]] := by
  rw [List.take_succ_eq_append_getElem h, List.map_append]; rfl

set_option maxRecDepth 100000 in
set_option maxHeartbeats 1000000 in
theorem pieces1_in (n : Nat) (hn : 1 ≤ n) (l Bs : Nat) (s : List UInt8) (hs : s.length ≤ 1099511627776) (J Jx : List Pc → World → Prop) (W0 : World) (hJ : AbidesFrom W0.heap.size J)
    (hY : ∀ pre x W, J pre W → pre.length < s.length → YieldAt Fence.wide (n - 1) Tryz.prog l #[.string ⟨x.1.toArray⟩] W fun e W' =>
      (e = .returned (.bool true) ∧ J (pre ++ [x]) W' ∧ KpS Bs W W') ∨ (e = .returned (.bool false) ∧ Jx (pre ++ [x]) W'))
    (hB : W0.cell? ⟨Bs, 0, none⟩ = some (.string ⟨s.toArray⟩)) (h0 : J [] W0) :
    CallsIn Fence.wide n Tryz.prog 71 #[.func (.yield l) #[] #[], .pointer (some ⟨Bs, 0, none⟩)] W0 fun e W' => (∃ v, e = .returned v) ∧
      ((∃ xs, xs = s.map escP ∧ J xs W') ∨ (∃ pre, True ∧ Jx pre W')) := by
  refine callsIn_of_wp Tryz.func71 rfl trivial ?_ rfl
  simp only [Tryz.ntmps71, List.size_toArray, List.length_cons, List.length_nil, Nat.reduceAdd, Nat.reduceSub, Array.replicate_succ, Array.replicate_zero, List.push_toArray, List.append_toArray, List.nil_append, List.cons_append]
  have hJh := Lib.hid hJ
  have hYh := Lib.hid hY
  clear hJ hY
  gi_wp2
  gi_loopw [6] (fun i wr => ∃ k : Nat, k ≤ s.length ∧ i = .int .i64 (k : Nat) ∧ wr.cell? ⟨Bs, 0, none⟩ = some (.string ⟨s.toArray⟩) ∧ J ((s.take k).map escP) wr) (fun i _ => s.length - (intOf i).toNat)
  case atStart => exact ⟨0, Nat.zero_le _, rfl, hB, by simpa using h0⟩
  case round =>
    obtain ⟨k, hk, rfl, hc, hJk⟩ := hrel
    by_cases hlt : k < s.length
    · have ce := fun W => escape_any s[k] W
      have HN := Lib.hid (take_map_snoc s k hlt)
      have hpl : ((s.take k).map escP).length < s.length := by simp; omega
      have hg := Lib.hid (show ({ data := s.toArray } : ByteArray)[k] = s[k] from rfl)
      generalize s[k] = c at ce HN hg
      generalize (s.take k).map escP = pre at hJk HN hpl
      have ceh := Lib.hid ce
      clear ce
      gi_wp2_with (refine ⟨trivial, ?_⟩; gi_at_call 72; rw [hg.out]; refine (callsIn_wide.2 (ceh.out _)).mono ?_; rintro e w1 ⟨rfl, hb⟩
                   have hJ1 := hJh.out pre wr w1 none hJk (grownBy_of_below hb.toBelow none) (fun r e => by cases e)
                   have hc1 := cell_keep hb.toBelow hc
                   obtain ⟨fn, tmps, assign, body, hy, hR⟩ := hYh.out pre (escP c) w1 hJ1 hpl
                   dsimp only [escP] at hy)
      refine hR.mono ?_
      rintro e W3 (⟨rfl, hJ3, hk3⟩ | ⟨rfl, hJx3⟩)
      · gi_wp2
        go_roundw
        case rel => exact ⟨k + 1, by omega, by go_num, hk3.trans hc1, by rw [HN.out]; exact hJ3⟩
        case measure => simp [intOf]; omega
      · gi_wp2
        refine bodyPost_ret (results_none rfl _ _ _) rfl ?_
        exact ⟨⟨_, rfl⟩, .inr ⟨_, trivial, hJx3⟩⟩
    · obtain rfl : k = s.length := by omega
      gi_wp2
      go_end0
      exact ⟨⟨_, rfl⟩, .inl ⟨_, rfl, by simpa using hJk⟩⟩

set_option maxHeartbeats 1000000 in
theorem pieces_any (s : List UInt8) (w : World) :
    Calls Tryz.prog 49 #[.string ⟨s.toArray⟩] w fun e w' => e = .returned (.func (.func 71) #[] #[.pointer (some ⟨w.heap.size, 0, none⟩)]) ∧ w' = w.alloc (.cells #[.string ⟨s.toArray⟩] 9) := by
  go_enter Tryz.func49, Tryz.ntmps49
  go_wp2
  go_ret
  exact ⟨rfl, rfl⟩

theorem pieces_stops (n : Nat) (hn : 1 ≤ n) (Bs : Nat) (s : List UInt8) (hs : s.length ≤ 1099511627776) (w : World) (hBs : Bs < w.heap.size) (hc : w.cell? ⟨Bs, 0, none⟩ = some (.string ⟨s.toArray⟩)) :
    SeqStopsK Fence.wide n Tryz.prog 71 #[.pointer (some ⟨Bs, 0, none⟩)] (fun x : Pc => #[Value.string ⟨x.1.toArray⟩]) (KpS Bs) (fun xs => xs = s.map escP) (fun _ => True) s.length w := fun l J Jx W hW hJ _ hY h0 =>
  pieces1_in n hn l Bs s hs J Jx W hJ hY ((hW.cell (p := ⟨Bs, 0, none⟩) hBs).trans hc) h0

/-- what the walk owes behind an append whose source lay already -/
theorem appended2 {W w1 : World} {n₀ B : Nat} {t e : TypeId} {size : Nat} {v v' : Value} {k m : Nat} {xs ys : List Value}
    (hv : Boxed W B t v) (hte : t ≠ e) (hrow : W.ownsRow n₀ e size v k xs) (hn₀ : n₀ ≤ W.heap.size) (hB : n₀ ≤ B)
    (hown' : w1.ownsRow n₀ e size v' m ys) (hgrow : W.grownBy w1 v.ownBlock) :
    Boxed w1 B t v ∧ Boxed (w1.setCell ⟨B, 0, none⟩ v') B t v' ∧ (w1.setCell ⟨B, 0, none⟩ v').ownsRow n₀ e size v' m ys ∧ KeepsOthers W (w1.setCell ⟨B, 0, none⟩ v') ∧ Below n₀ W (w1.setCell ⟨B, 0, none⟩ v') := by
  have hv1 : Boxed w1 B t v := hv.kept hgrow (hv.not_row hte hrow)
  refine ⟨hv1, hv1.set v', hown'.kept (grownBy_setCell' w1 B v') (.inr (hv1.not_row hte hown').symm), ?_, ?_⟩
  · refine (KeepsOthers.of_grownBy hgrow fun j o ej hj => ?_).trans (KeepsOthers.setCell _ _ _)
    rcases hrow.2 with ⟨rfl, _⟩ | ⟨g, cap, cur, rfl, _, hgb, _⟩
    · simp [Value.ownBlock] at ej
    · obtain rfl : g = j := by simpa [Value.ownBlock] using ej
      rw [hgb] at hj; cases hj; rfl
  · refine ((Below.refl n₀ W).grown hgrow hn₀ fun j ej => ?_).setCell (p := ⟨B, 0, none⟩) hB v'
    rcases hrow.2 with ⟨rfl, _⟩ | ⟨g, cap, cur, rfl, hb, _, _⟩
    · simp [Value.ownBlock] at ej
    · obtain rfl : g = j := by simpa [Value.ownBlock] using ej
      exact hb
theorem boxed_kept_row {W W' : World} {B : Nat} {t e : TypeId} {u v : Value} {n₀ size k : Nat} {xs : List Value} (h : Boxed W B t u) (hte : t ≠ e) (hr : W.ownsRow n₀ e size v k xs) (hg : W.grownBy W' v.ownBlock) : Boxed W' B t u := h.kept hg (h.not_row hte hr)
theorem boxed_own2 {β : Type} (B : Nat) (t : TypeId) (v : Value) : Own (fun (_ : β) W => Boxed W B t v) := by
  rintro s X Y row hv hg hrow
  refine hv.kept hg (fun e' => ?_)
  obtain ⟨o, ho, hc⟩ := hrow B e'.symm
  rw [show X.heap[B]? = _ from hv] at ho; cases ho; cases hc

theorem wpListIn_append_str {F : Fence} {n' : Nat} {P : Program} {ops : Array Oper} {rest : List Oper} {o : Oper} {a : Act} {Q : Exit → Act → World → Prop} (w : World) (hgd : o.guard = none) (sl x : Operand) (t u : TypeId)
    (ho : o.op = .call { callee := .builtin .append, args := #[sl, x], argTypes := #[t, u] })
    (base : Nat) (e : TypeId) (i : TypeInfo) (ht : P.underlying t = some (.slice e)) (hu : P.underlying u = some .string) (hi : P.info? e = some i) (hz : i.zero = some (.int .u8 0))
    (hsize : i.size = 1) (hby : i.bytes = 1)
    (v : Value) (n : Nat) (xs : List Value) (hs : a.eval sl = v) (hown : w.ownsRow base e 1 v n xs) (s : ByteArray) (hx : a.eval x = .string s)
    (h63 : n + s.size ≤ maxLen) (hbytes : n + s.size ≤ 140737488355328) (hbase : base ≤ w.heap.size)
    (h : ∀ v' w', w'.ownsRow base e 1 v' (n + s.size) (xs ++ Lib.strCells s) → w.grownBy w' v.ownBlock → (v' = .slice none 0 0 ↔ v = .slice none 0 0 ∧ s.size = 0) → wpListIn F n' P ops Q rest (a.put o.dst v') w') : wpListIn F n' P ops Q (o :: rest) a w := by
  refine wpListIn_plain hgd fun K hK => ?_
  obtain ⟨v', w', hr, h2, h3, h4⟩ := Lib.run_append_own_string (P := P) w base t u o.type e i ht hu hi hz hsize hby v n xs hown s h63 hbytes hbase
  unfold Oper.wpIn
  refine ⟨?_, ?_⟩
  · simp [Oper.about, ho, resolve, Target.leads, Sem.run_pure]
  · rw [Oper.semAt_plain F _ _ (by rw [ho]; intro c hc'; cases hc')]
    simp [execOp, ho, resolve, invoke, builtin, hs, hx, hr, Result.andThen]
    exact hK _ _ (h v' w' h2 h3 h4)

theorem strCells_eq (l : List UInt8) : Lib.strCells ⟨l.toArray⟩ = u8s l := by simp [Lib.strCells, u8s]
theorem infoU8 : (Tryz.prog.info? 5).map (fun i => (i.zero, i.size, i.bytes)) = some (some (.int .u8 0), 1, 1) := by kernel_rfl

theorem ownsRow_pos {W : World} {base : Nat} {e : TypeId} {size : Nat} {v : Value} {k : Nat} {xs : List Value} (h : W.ownsRow base e size v k xs) (hk : 0 < k) : ∃ g cap, v = .slice (some ⟨g, 0, none⟩) k cap := by
  rcases h.2 with ⟨_, h0⟩ | ⟨g, cap, _, rfl, _⟩
  · omega
  · exact ⟨g, cap, rfl⟩
theorem ko_append {W w1 : World} {n₀ : Nat} {e : TypeId} {size : Nat} {v : Value} {k : Nat} {xs : List Value} {tmp : Obj} (hrow : W.ownsRow n₀ e size v k xs) (hgrow : (W.alloc tmp).grownBy w1 v.ownBlock) : KeepsOthers W w1 := by
  refine (KeepsOthers.alloc W tmp).trans (KeepsOthers.of_grownBy hgrow fun j o ej hj => ?_)
  rcases (hrow.alloc tmp).2 with ⟨rfl, _⟩ | ⟨g, cap, cur, rfl, _, hgb, _⟩
  · simp [Value.ownBlock] at ej
  · obtain rfl : g = j := by simpa [Value.ownBlock] using ej
    rw [hgb] at hj; cases hj; rfl
theorem u8s_append (a b : List UInt8) : u8s a ++ u8s b = u8s (a ++ b) := by simp [u8s]

set_option maxRecDepth 100000 in
set_option maxHeartbeats 2000000 in
theorem Quote_in (s : List UInt8) (hs : s.length ≤ 1099511627776) (w : World) :
    CallsIn Fence.wide 3 Tryz.prog 31 #[.string ⟨s.toArray⟩] w fun e w' => e = .returned (.string ⟨(qtext s).toArray⟩) ∧ Below w.heap.size w w' := by
  obtain ⟨i0, hi, hz0, hz1, hz2⟩ := info_parts infoU8
  refine callsIn_of_wp_marks Tryz.func31 rfl trivial ?_ rfl
  simp only [Tryz.ntmps31, List.size_toArray, List.length_cons, List.length_nil, Nat.reduceAdd, Nat.reduceSub, Array.replicate_succ, Array.replicate_zero, List.push_toArray, List.append_toArray, List.nil_append, List.cons_append]
  gi_wp2_with (refine ⟨trivial, ?_⟩; gi_at_call 49; refine (callsIn_wide.2 (pieces_any s _)).mono ?_; rintro e w' ⟨rfl, rfl⟩)
  have bO := (Boxed.new (w.alloc (.cells #[.int .u8 34] 5)) 52 (.slice (some ⟨w.heap.size, 0, none⟩) 1 1)).alloc (.cells #[.string ⟨s.toArray⟩] 9)
  have bS := Boxed.new ((w.alloc (.cells #[.int .u8 34] 5)).alloc (.cells #[.slice (some ⟨w.heap.size, 0, none⟩) 1 1] 52)) 9 (.string ⟨s.toArray⟩)
  have bR : (((w.alloc (.cells #[.int .u8 34] 5)).alloc (.cells #[.slice (some ⟨w.heap.size, 0, none⟩) 1 1] 52)).alloc (.cells #[.string ⟨s.toArray⟩] 9)).ownsRow w.heap.size 5 1 (.slice (some ⟨w.heap.size, 0, none⟩) 1 1) 1 (u8s [34]) :=
    World.ownsRow.alloc (World.ownsRow.alloc (⟨rfl, .inr ⟨w.heap.size, 1, #[.int .u8 34], rfl, Nat.le_refl _, heap_alloc_new w _, Nat.le_refl _, by simp [maxLen], rfl, rfl⟩⟩ : (w.alloc (.cells #[.int .u8 34] 5)).ownsRow w.heap.size 5 1 (.slice (some ⟨w.heap.size, 0, none⟩) 1 1) 1 (u8s [34])) _) _
  have hB0 : Below w.heap.size w (((w.alloc (.cells #[.int .u8 34] 5)).alloc (.cells #[.slice (some ⟨w.heap.size, 0, none⟩) 1 1] 52)).alloc (.cells #[.string ⟨s.toArray⟩] 9)) := (((Below.refl _ w).alloc (Nat.le_refl _) _).alloc (by simp) _).alloc (by simp; omega) _
  rw [World.size_alloc] at bO
  simp only [World.size_alloc] at bS
  have hz : (((w.alloc (.cells #[.int .u8 34] 5)).alloc (.cells #[.slice (some ⟨w.heap.size, 0, none⟩) 1 1] 52)).alloc (.cells #[.string ⟨s.toArray⟩] 9)).heap.size = w.heap.size + 3 := by simp
  obtain ⟨W0, hW0⟩ : ∃ W0, (((w.alloc (.cells #[.int .u8 34] 5)).alloc (.cells #[.slice (some ⟨w.heap.size, 0, none⟩) 1 1] 52)).alloc (.cells #[.string ⟨s.toArray⟩] 9)) = W0 := ⟨_, rfl⟩
  rw [hW0] at bO bS bR hB0 hz ⊢
  clear hW0
  refine wpIn_rangeFunc_ownF rfl (by decide) (gf := 71) (lb := #[.pointer (some ⟨w.heap.size + 1 + 1, 0, none⟩)]) rfl trivial (enters_of Tryz.func71 (by kernel_rfl) rfl)
    (pieces_stops 2 (by decide) (w.heap.size + 1 + 1) s hs W0 (by omega) bS.cell) (fun h k => Eq.trans k h) (fun W l o o' hl ho h1 h2 => World.cell?_of_block (World.putObj_heap_other (by show w.heap.size + 1 + 1 ≠ l; omega))) (Below.refl _ _) (fun _ => rfl)
    (fun pre W => (∃ v, Boxed W (w.heap.size + 1) 52 v ∧ W.ownsRow w.heap.size 5 1 v (1 + (cat pre).length) (u8s ([34] ++ cat pre)) ∧ True) ∧ (Boxed W (w.heap.size + 1 + 1) 9 (.string ⟨s.toArray⟩) ∧ Below w.heap.size w W))
    (fun _ _ _ => False)
    (OwnFrom.and (Own.from (holdsRow_own w.heap.size (w.heap.size + 1) 52 5 1 (fun pre => 1 + (cat pre).length) (fun pre => u8s ([34] ++ cat pre)) (fun _ _ => True)) _) (OwnFrom.and (Own.from (boxed_own2 _ _ _) _) (ownFrom_below (Nat.le_refl _) (by omega))))
    (fun _ _ _ _ _ hs _ _ => hs)
    ⟨⟨_, bO, by simpa [cat] using bR, trivial⟩, bS, hB0⟩
    (fun x => { tmps := #[.string ⟨s.toArray⟩, undef, .string ⟨#[]⟩, .pointer (some ⟨w.heap.size + 1, 0, none⟩), .string ⟨x.1.toArray⟩, .slice (some ⟨w.heap.size, 0, none⟩) 1 1, .string ⟨s.toArray⟩, .func (.func 71) #[] #[.pointer (some ⟨w.heap.size + 1 + 1, 0, none⟩)], .string ⟨x.1.toArray⟩, undef, undef, undef, undef, undef, undef, undef], defers := [] }) ?assign ?body ?done ?stop
  case assign =>
    intro l x W K hK
    gi_wp2
    exact hK
  case body =>
    rintro l pre x W ⟨⟨v, hv, hrow, _⟩, hS, hB⟩ hlt
    have hc := hv.cell
    have hcl := cat_len pre
    have hx4 := x.2
    have hx : (⟨x.1.toArray⟩ : ByteArray).size = x.1.length := rfl
    have hle := hB.size
    have b1 : 1 + (cat pre).length + (⟨x.1.toArray⟩ : ByteArray).size ≤ 140737488355328 := by rw [hx]; omega
    have b0 : 1 + (cat pre).length + (⟨x.1.toArray⟩ : ByteArray).size ≤ maxLen := by unfold maxLen; omega
    clear hx
    gi_wp2_with (gi_at_builtin; go_must (refine wpListIn_append_str _ rfl (.tmp 9) (.tmp 10) 52 9 rfl w.heap.size 5 i0 Tryz.underlying52 Tryz.underlying9 hi hz0 hz1 hz2 v _ _ ?e1 hrow ⟨x.1.toArray⟩ ?e2 b0 b1 hle ?_; (try (case e1 => rfl)); (try (case e2 => rfl)); intro v' w1 hown' hgrow _; obtain ⟨g', cap', rfl⟩ := ownsRow_pos hown' (by omega); obtain ⟨hv1, hv2, hr2, hk2, hb2⟩ := appended2 hv (by decide) hrow hle (by omega) hown' hgrow; have hS1 := boxed_kept_row hS (by decide) hrow hgrow; have hc1 := hv1.cell; have hf1 := hv1.frozen))
    have hS2 := hS1.kept (grownBy_setCell' w1 (w.heap.size + 1) (Value.slice (some ⟨g', 0, none⟩) (1 + (cat pre).length + (⟨x.1.toArray⟩ : ByteArray).size) cap')) (by simp)
    have er : u8s ([34] ++ cat pre) ++ Lib.strCells ⟨x.1.toArray⟩ = u8s ([34] ++ cat (pre ++ [x])) := by rw [strCells_eq, u8s_append, cat_snoc, List.append_assoc]
    have el : 1 + (cat pre).length + (⟨x.1.toArray⟩ : ByteArray).size = 1 + (cat (pre ++ [x])).length := by rw [cat_snoc, List.length_append]; simp [ByteArray.size]; omega
    exact ⟨hk2, hS2.cell.trans hS.cell.symm, ⟨_, hv2, by rw [← el, ← er]; exact hr2, trivial⟩, hS2, hB.trans hb2⟩
  case done =>
    rintro D ys W hD rfl ⟨⟨v, hv, hrow, _⟩, hS, hB⟩ hK
    have hc := hv.cell
    have hcl := cat_len (s.map escP)
    simp only [List.length_map] at hcl
    have hle := hB.size
    have b1 : (1 + (cat (s.map escP)).length + 1) * 1 ≤ 140737488355328 := by omega
    have b0 : 1 + (cat (s.map escP)).length + 1 ≤ maxLen := by unfold maxLen; omega
    have hq : u8s ([34] ++ cat (s.map escP)) ++ [Value.int .u8 34] = u8s (qtext s) := by rw [cat_esc]; simp [u8s, qtext]
    have hq := Lib.hid hq
    gi_wp2_with (gi_at_builtin; go_must (refine wpListIn_append_own _ rfl (.tmp 12) (.tmp 13) 52 rfl w.heap.size 5 i0 (.int .u8 0) 1 1 Tryz.underlying52 hi hz0 hz1 hz2 rfl (by decide) v _ _ ?e1 (hrow.alloc _) ⟨W.heap.size, 0, none⟩ 1 1 [.int .u8 34] ?e2 rfl (cell_one_new _ _ _) (by simp [Value.oneCell']) b0 b1 (by simp; omega) ?_; (try (case e1 => rfl)); (try (case e2 => rfl)); intro v' w1 hown' hgrow _; obtain ⟨g', cap', rfl⟩ := ownsRow_pos hown' (by omega); have hko := ko_append hrow hgrow; rw [hq.out] at hown'; have hcv := Acc.str (base := w.heap.size) 52 9 (.inl hown') Tryz.underlying52 Tryz.underlying5 Tryz.underlying9))
    have hK1 := hko.same D _ hK rfl
    refine ⟨by simp, .inl ⟨_, _, rfl, run_takeDeferred hK1, ?_⟩⟩
    have hb1 : Below w.heap.size w w1 := (hB.alloc hle _).grown hgrow (by simp; omega) (fun k e => (hrow.lt k e).1)
    exact ⟨_, results_tmp rfl _ _ _, rfl, hb1.trans (belowK_b (w := w) (Nat.le_refl _) w1 D _ _ (by omega) hK1 rfl rfl)⟩
  case stop =>
    rintro D c pre W _ _ h _
    exact h.elim

theorem Quote_any (s : List UInt8) (hs : s.length ≤ 1099511627776) (w : World) :
    Calls Tryz.prog 31 #[.string ⟨s.toArray⟩] w fun e w' => e = .returned (.string ⟨(qtext s).toArray⟩) ∧ Below w.heap.size w w' := callsIn_wide.1 (Quote_in s hs w)
end Go.Proofs.YtabmidnamaaklaaGreatDoor
