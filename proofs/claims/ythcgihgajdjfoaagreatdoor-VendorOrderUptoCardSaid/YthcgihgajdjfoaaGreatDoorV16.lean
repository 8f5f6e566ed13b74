/- What the claim needs of: WS2 WS3 VB WM2. -/
import Derived.Test.YthcgihgajdjfoaaGreatDoorV15
import Derived.Test.YthcgihgajdjfoaaGreatDoorV9
import Derived.Test.YthcgihgajdjfoaaGreatDoorV11
import Derived.Deep.LoopGhost
import Derived.Test.YthcgihgajdjfoaaGreatDoorV8
namespace Go.Proofs.YthcgihgajdjfoaaGreatDoor
open Go.RowKit Go.Sort
def manV (y : ManW) : Value := .agg (encW y).toArray
def findF (Y : List ManW) (m : Mod) : Option Value := (Y.find? fun y => decide (y.1 = m)).map manV
theorem findF_put (L : List ManW) (y : ManW) (h : y.1 ∉ L.map (·.1)) : (fun x => if x = y.1 then some (manV y) else findF L x) = findF (L ++ [y]) := by
 funext x
 unfold findF
 rw [List.find?_append]
 by_cases hx : x = y.1
 ·subst hx
  have : L.find? (fun z => decide (z.1 = y.1)) = none := by
   rw [List.find?_eq_none]
   intro z hz hd
   exact h (List.mem_map.2 ⟨z, hz, of_decide_eq_true hd⟩)
  simp [this]
 ·cases hf : L.find? fun z => decide (z.1 = x) with
  | some z => simp [hx]
  | none => simp [hx, Ne.symm hx]
theorem manZero (w : World) : (zeroValue 29).run Tryz.prog w = .ok (.agg #[.string ByteArray.empty, .int .i64 0, .int .i64 0, .int .i64 0, .slice none 0 0]) w := Tryz.zeroValue29 w
set_option maxRecDepth 100000 in
set_option maxHeartbeats 4000000 in
theorem selIndex_any (A : Option Addr) (c : Nat) (Y : List ManW) (w : World) (hY : RegOk w w.heap.size A Y) (hn : (Y.map (·.1)).Nodup) :
  Calls Tryz.prog 68 #[.slice A Y.length c] w fun e w' => e = .returned (.map (some w.heap.size)) ∧ OMap KM w' w.heap.size Y.length (findF Y) ∧ Below w.heap.size w w' := by
 have HY := Lib.hid hY
 have HND := Lib.hid hn
 have hYl := hY.2.2
 have hm0 : OMap KM (w.alloc (.map #[] 0)) w.heap.size 0 (findF []) := OMap.made KM w
 have hmm := @run_makeMap Tryz.prog
 clear hY hn
 go_enter Tryz.func68, Tryz.ntmps68
 go_wp2
 go_loopw [9] (fun i wr => ∃ k : Nat, k ≤ Y.length ∧ i = .int .i64 (k : Nat) ∧ OMap KM wr w.heap.size k (findF (Y.take k)) ∧ Below w.heap.size w wr) (fun i _ => Y.length - (intOf i).toNat)
 case atStart => exact ⟨0, Nat.zero_le _, rfl, hm0, (Below.refl _ _).alloc (Nat.le_refl _) _⟩
 case round =>
  obtain ⟨k, hk, rfl, hm, hb⟩ := hrel
  have hbz := hb.size
  by_cases hlt : k < Y.length
  ·have hlt' : (k : Int) < (Y.length : Int) := by omega
   obtain ⟨b, off, rfl, hbB, g0, g1, g2, g3, g4⟩ := (HY.out.keep hb).1.man hlt
   obtain ⟨_, _, hy3⟩ := HY.out.2.1 _ (List.getElem_mem hlt)
   have HTk := Lib.hid (List.take_succ_eq_append_getElem hlt)
   have HNot := Lib.hid (show Y[k].1 ∉ (Y.take k).map (·.1) by
    have h := HND.out
    rw [← List.take_append_drop k Y, List.drop_eq_getElem_cons hlt, List.map_append, List.map_cons, List.nodup_append] at h
    exact fun hx => h.2.2 _ hx _ (by simp) rfl)
   generalize Y[k] = y at g0 g1 g2 g3 g4 hy3 HTk HNot
   have HOK := Lib.hid (show okMod y.1 from (hy3 y.1 (by simp)).ok)
   have HP := Lib.hid (findF_put (Y.take k) y HNot.out)
   obtain ⟨m, A1, c1, l1⟩ := y
   simp only at g0 g1 g2 g3 g4 HOK
   have hm1 := hm.alloc (.cells #[.string ⟨m.1.toArray⟩, .int .i64 m.2.1, .int .i64 m.2.2.1, .int .i64 m.2.2.2, .slice A1 l1.length c1] 29)
   obtain ⟨w3, hput, hm3, hg3⟩ := hm1.put Tryz.underlying114 (by unfold maxLen; omega) m HOK.out (manV (m, A1, c1, l1))
   have hput' : (Instr.mapUpdate 114 (.map (some w.heap.size)) (.agg #[.string ⟨m.1.toArray⟩, .int .i64 m.2.1, .int .i64 m.2.2.1, .int .i64 m.2.2.2]) (.agg #[.string ⟨m.1.toArray⟩, .int .i64 m.2.1, .int .i64 m.2.2.1, .int .i64 m.2.2.2, .slice A1 l1.length c1])).run Tryz.prog (wr.alloc (.cells #[.string ⟨m.1.toArray⟩, .int .i64 m.2.1, .int .i64 m.2.2.1, .int .i64 m.2.2.2, .slice A1 l1.length c1] 29)) = _ := hput
   have M3 := Lib.hid hm3
   have HB3 := Lib.hid ((hb.alloc hbz _).grown hg3 (by simp; omega) (by simp))
   clear hput hm3 hg3 hm hm1 hy3
   go_wp2
   go_roundw
   case rel => exact ⟨k + 1, by omega, by go_num, by rw [HTk.out, ← HP.out]; exact M3.out, HB3.out⟩
   case measure => simp [intOf]; omega
  ·obtain rfl : k = Y.length := by omega
   rw [List.take_of_length_le (Nat.le_refl _)] at hm
   have HM := Lib.hid hm
   clear hm
   go_wp2
   go_ret
   exact ⟨rfl, HM.out, hb⟩
end Go.Proofs.YthcgihgajdjfoaaGreatDoor
namespace Go.Proofs.YthcgihgajdjfoaaGreatDoor
open Go.RowKit Go.Sort
section
variable {P : Program} {t e size bytes : Nat}
theorem run_own0 (w : World) (hT : ElT P t e size bytes) (base ty : Nat) (v : Value) (n : Nat) (xs : List Value) (hown : w.ownsRow base e size v n xs) (A : Option Addr) (c : Nat) :
  (Builtin.append_ #[t, t] ty #[v, .slice A 0 c]).run P w = .ok v w := by
 obtain ⟨ht, hsz, i, z, hi, hz, hs, hby, hzs⟩ := hT
 rcases hown.2 with ⟨rfl, rfl⟩ | ⟨g, cap, cur, rfl, _, _, hnc, _⟩
 ·rcases A with _ | ad <;> simp [Builtin.append_, run_underlying ht, sizeOf, typeInfo, hi, Builtin.lenOf, Builtin.firstCells, loadCells, loadCellsFrom]
 ·rcases A with _ | ad <;> simp [Builtin.append_, run_underlying ht, sizeOf, typeInfo, hi, Builtin.lenOf, Builtin.firstCells, loadCells, loadCellsFrom, hnc, storeCells]
theorem run_own1 (w : World) (hT : ElT P t e size bytes) (base ty : Nat) (v : Value) (n : Nat) (xs : List Value) (hown : w.ownsRow base e size v n xs)
  (A : Option Addr) (m c : Nat) (news : List Value) (hsrc : Src w size A m news) (h1 : ∀ u ∈ news, u.oneCell' = true)
  (h63 : n + m ≤ maxLen) (hbytes : (n + m) * bytes ≤ 140737488355328) (hbase : base ≤ w.heap.size) :
  ∃ v' w', (Builtin.append_ #[t, t] ty #[v, .slice A m c]).run P w = .ok v' w' ∧ w'.ownsRow base e size v' (n + m) (xs ++ news) ∧ w.grownBy w' v.ownBlock ∧ Below base w w' := by
 rcases Nat.eq_zero_or_pos m with rfl | hm
 ·have hn : news = [] := List.eq_nil_of_length_eq_zero (by simpa using hsrc.1)
  subst hn
  exact ⟨v, w, run_own0 w hT base ty v n xs hown A c, by simpa using hown, World.grownBy.refl w _, Below.refl _ _⟩
 ·exact run_own w hT base ty v n xs hown A m c news hsrc hm h1 h63 hbytes hbase
theorem wpList_own1 {w : World} {ops : Array Oper} {rest : List Oper} {o : Oper} {a : Act} {Q : Exit → Act → World → Prop} (hgd : o.guard = none) (s x : Operand)
  (ho : o.op = .call { callee := .builtin .append, args := #[s, x], argTypes := #[t, t] })
  (base : Nat) (hT : ElT P t e size bytes) (v : Value) (n : Nat) (xs : List Value) (hs : a.eval s = v) (hown : w.ownsRow base e size v n xs)
  (A : Option Addr) (m c : Nat) (news : List Value) (hx : a.eval x = .slice A m c) (hsrc : Src w size A m news) (h1 : ∀ u ∈ news, u.oneCell' = true)
  (h63 : n + m ≤ maxLen) (hbytes : (n + m) * bytes ≤ 140737488355328) (hbase : base ≤ w.heap.size)
  (h : ∀ v' w', w'.ownsRow base e size v' (n + m) (xs ++ news) → w.grownBy w' v.ownBlock → Below base w w' → wpList P ops Q rest (a.put o.dst v') w') : wpList P ops Q (o :: rest) a w := by
 refine wpList_plain hgd fun K hK => ?_
 obtain ⟨v', w', hrun, h2, h3, h4⟩ := run_own1 (P := P) w hT base o.type v n xs hown A m c news hsrc h1 h63 hbytes hbase
 unfold Oper.wp execOp
 simp only [ho, resolve, invoke, builtin, Sem.run_bind, Sem.run_pure, Result.andThen_ok, List.map_toArray, List.map_cons, List.map_nil, hs, hx, hrun]
 exact hK _ _ (h v' w' h2 h3 h4)
end
theorem own_below2 {w w' : World} {base e size n : Nat} {v : Value} {xs : List Value} (h : w.ownsRow base e size v n xs) (hb : Below w.heap.size w w') : w'.ownsRow base e size v n xs :=
 h.kept (row := none) ⟨hb.os, hb.tape, hb.output, hb.size, fun k hk _ => hb.block k hk⟩ (by rcases hv : v.ownBlock with _ | _ <;> simp)
theorem OMap.same {P : Program} {k : TypeId} {α : Type} {T : KeyT P k α} {w w' : World} {b n : Nat} {f : α → Option Value} (h : OMap T w b n f) (he : w'.heap[b]? = w.heap[b]?) : OMap T w' b n f := by
 obtain ⟨D, ⟨es, clock, h1, h2⟩, h3⟩ := h
 exact ⟨D, ⟨es, clock, he.trans h1, h2⟩, h3⟩
theorem own_trunc {w : World} {base e size n k c : Nat} {A : Option Addr} {xs : List Value} (h : w.ownsRow base e size (.slice A n c) n xs) (hk : k ≤ n) : w.ownsRow base e size (.slice A k c) k (xs.take (k * size)) := by
 obtain ⟨h1, h2⟩ := h
 have hks : k * size ≤ n * size := Nat.mul_le_mul_right _ hk
 refine ⟨by rw [List.length_take]; omega, ?_⟩
 rcases h2 with ⟨h2, rfl⟩ | ⟨g, cap, cur, h2, h3, h4, h5, h6, h7, h8⟩
 ·obtain rfl : k = 0 := by omega
  exact .inl ⟨h2, rfl⟩
 ·injection h2 with e1 e2 e3
  subst e1 e3
  refine .inr ⟨g, c, cur, rfl, h3, h4, by omega, h6, h7, ?_⟩
  rw [← h8, List.take_take, Nat.min_eq_left hks]
theorem flat_take {α : Type} {enc : α → List Value} {k : Nat} (hk : ∀ x, (enc x).length = k) : ∀ (l : List α) (i : Nat), (l.flatMap enc).take (i * k) = (l.take i).flatMap enc
 | [], i => by simp
 | x :: l, 0 => by simp
 | x :: l, i + 1 => by
   have ih := flat_take hk l i
   rw [List.take_succ_cons, List.flatMap_cons, List.flatMap_cons, List.take_append, ih.symm]
   have h1 : (enc x).length ≤ (i + 1) * k := by rw [hk, Nat.succ_mul]; omega
   rw [List.take_of_length_le h1, hk, Nat.succ_mul, Nat.add_sub_cancel]
theorem find_reg (Y : List ManW) (m : Mod) : (regW Y).find? (fun x => decide (x.1 = m)) = (Y.find? fun y => decide (y.1 = m)).map plainW := by
 unfold regW
 rw [List.find?_map]
 rfl
theorem reqOf_find (Y : List ManW) (m : Mod) : reqOf (regW Y) m = ((Y.find? fun y => decide (y.1 = m)).map (·.2.2.2)).getD [] := by
 unfold reqOf
 rw [find_reg]
 cases Y.find? fun y => decide (y.1 = m) <;> rfl
theorem hasR_find (Y : List ManW) (m : Mod) : hasR (regW Y) m = (Y.find? fun y => decide (y.1 = m)).isSome := by
 unfold hasR regW
 rw [List.any_map, List.isSome_find?]
 rfl
def TodoV (w : World) (base : Nat) (v : Value) (T : List Mod) : Prop := (T = [] ∧ ∃ A c, v = .slice A 0 c) ∨ ∃ A c, v = .slice A T.length c ∧ T.length ≤ c ∧ w.ownsRow base 26 4 v T.length (T.flatMap encM)
theorem todo_of {w : World} {base n : Nat} {v : Value} {xs : List Value} {T : List Mod} (h : w.ownsRow base 26 4 v n xs) (hn : n = T.length) (hx : xs = T.flatMap encM) : TodoV w base v T := by
 subst hn hx
 obtain ⟨A, c, rfl⟩ := Acc.shape (.inl h)
 exact .inr ⟨A, c, rfl, Acc.cap (.inl h), h⟩
def RetNeed (w : World) (R : Regy) (l : List Mod) (path : List UInt8) (e : Ending) (w' : World) : Prop :=
 ∃ (S : List Mod) (q : Bool) (n : Nat), e = .returned (.tuple #[.map (some w.heap.size), .bool q]) ∧ S.Nodup ∧ (∀ m, m ∈ S ↔ Reach R l m) ∧ n ≤ 1200000 ∧ OMap KM w' w.heap.size n (seenM S) ∧ (q = true ↔ ∀ m, Reach R l m → m.1 = path ∨ hasR R m = true) ∧ Below w.heap.size w w'
set_option maxRecDepth 100000 in
set_option maxHeartbeats 4000000 in
theorem needed_any (br nr : Nat) (Y : List ManW) (A : Option Addr) (c : Nat) (l : List Mod) (path : List UInt8) (w : World) (hm : OMap KM w br nr (findF Y)) (hY : ∀ y ∈ Y, ManOk w w.heap.size y) (hYl : Y.length ≤ 100) (hA : Sl w w.heap.size 4 encM A l) (hl : l.length ≤ 100) (hlo : ∀ m ∈ l, okB m) :
  Calls Tryz.prog 113 #[.map (some br), .slice A l.length c, .string ⟨path.toArray⟩] w (RetNeed w (regW Y) l path) := by
 have HM := Lib.hid hm
 have HY := Lib.hid hY
 have hUl := univ_len (regW Y) l (by simpa [regW] using hYl) (fun x hx => by
  obtain ⟨y, hy, rfl⟩ := List.mem_map.1 hx
  exact (hY y hy).2.1)
 have HRok := Lib.hid (show ∀ m, Reach (regW Y) l m → okB m from fun m h => by
  rcases List.mem_append.1 h.univ with h1 | h1
  ·exact hlo m h1
  ·obtain ⟨x, hx, hmx⟩ := List.mem_flatMap.1 h1
   obtain ⟨y, hy, rfl⟩ := List.mem_map.1 hx
   exact (hY y hy).2.2 m (List.mem_cons_of_mem _ hmx))
 have hm0 : OMap KM (w.alloc (.map #[] 0)) w.heap.size 0 (seenM []) := (OMap.made KM w).congr (fun a _ => by simp [seenM])
 have hmm := @run_makeMap Tryz.prog
 have cC := Lib.hid (cloneM_any A c l (w.alloc (.map #[] 0)) ((hA.below ((Below.refl _ _).alloc (Nat.le_refl _) _)).more (by simp)) (by omega))
 have HLO := Lib.hid hlo
 clear hm hY hA hlo
 generalize hQ : RetNeed w (regW Y) l path = Q
 go_enter Tryz.func113, Tryz.ntmps113
 go_wp2_with fail
 refine cC.out.mono ?_
 rintro e w1 ⟨v0, rfl, hrow, hb1⟩
 have HB1 := Lib.hid (((Below.refl w.heap.size w).alloc (Nat.le_refl _) _).trans (hb1.mono (by simp)))
 have M1 := Lib.hid (hm0.below hb1)
 have hz1 := hb1.size
 rw [World.size_alloc] at hz1
 have HTV := Lib.hid (show TodoV w1 (w.heap.size + 1) v0 l by
  rcases hrow with ⟨rfl, A', c', rfl⟩ | ⟨_, h⟩
  ·exact .inl ⟨rfl, A', c', rfl⟩
  ·rw [World.size_alloc] at h
   obtain ⟨A', c', rfl⟩ := Acc.shape (.inl h)
   exact .inr ⟨A', c', rfl, Acc.cap (.inl h), h⟩)
 clear hrow hb1 hm0 cC
 go_wp2_with fail
 go_loopg [9, 10] (l.length + (univ (regW Y) l).length * 101) (fun n v q wr => ∃ (S T : List Mod) (p : Bool) (k : Nat), T.length + ((univ (regW Y) l).length - S.length) * 101 ≤ n ∧ n ≤ 1100000 ∧ k + n ≤ 1100000 ∧ q = .bool p ∧ Hid (TodoV wr (w.heap.size + 1) v T) ∧ Hid (Needs (regW Y) l S T) ∧ Hid (OMap KM wr w.heap.size k (seenM S)) ∧ Hid (p = true ↔ ∀ m ∈ S, m.1 = path ∨ hasR (regW Y) m = true) ∧ Hid (Below w.heap.size w wr) ∧ w.heap.size + 1 ≤ wr.heap.size)
 case atStart => exact ⟨[], l, true, 0, by simp, by omega, by omega, rfl, HTV, Lib.hid (Needs.start _ _), M1, Lib.hid (by simp), HB1, hz1⟩
 case round =>
  obtain ⟨S, T, p, k, hpot, hn11, hkn, rfl, HT, HN, HS, HP, HB, hzw⟩ := hrel
  rcases List.eq_nil_or_concat T with rfl | ⟨T', m, hTe⟩
  ·obtain ⟨A', c', rfl⟩ : ∃ A' c', u9 = .slice A' 0 c' := by
    rcases HT.out with ⟨_, A', c', h⟩ | ⟨A', c', h, _⟩
    ·exact ⟨A', c', h⟩
    ·exact ⟨A', c', h⟩
   go_wp2
   rw [← hQ]
   exact ⟨S, p, k, rfl, HN.out.nodup, HN.out.fin, by omega, HS.out, by
    rw [HP.out]
    exact ⟨fun h m hr => h m ((HN.out.fin m).2 hr), fun h m hm => h m ((HN.out.fin m).1 hm)⟩, HB.out⟩
  ·rw [List.concat_eq_append] at hTe
   subst hTe
   obtain ⟨A', c', rfl, hcap, hown⟩ : ∃ A' c', u9 = .slice A' (T' ++ [m]).length c' ∧ (T' ++ [m]).length ≤ c' ∧ wr.ownsRow (w.heap.size + 1) 26 4 u9 (T' ++ [m]).length ((T' ++ [m]).flatMap encM) := by
    rcases HT.out with ⟨h, _⟩ | ⟨A', c', rfl, h2, h3⟩
    ·simp at h
    ·exact ⟨A', c', rfl, h2, h3⟩
   obtain ⟨kt, hkt⟩ : ∃ kt, kt = T'.length := ⟨_, rfl⟩
   have htl : (T' ++ [m]).length = kt + 1 := by rw [hkt]; simp
   have hS4 := Acc.slAny (.inl hown) encM_len (by decide)
   obtain ⟨b, off, rfl, hbB, g0, g1, g2, g3⟩ := hS4.mod (i := kt) (by rw [htl]; omega)
   have hget : (T' ++ [m])[kt]'(by rw [htl]; omega) = m := by simp [hkt]
   rw [hget] at g0 g1 g2 g3
   have hown2 := own_trunc hown (k := kt) (by omega)
   rw [flat_take encM_len, show (T' ++ [m]).take kt = T' by rw [hkt]; simp] at hown2
   have HO2 := Lib.hid (hown2.alloc (.cells #[.string ⟨m.1.toArray⟩, .int .i64 m.2.1, .int .i64 m.2.2.1, .int .i64 m.2.2.2] 26))
   rw [htl] at hcap hpot
   obtain ⟨tl, htl2⟩ : ∃ tl, tl = kt + 1 := ⟨_, rfl⟩
   have hsv : (Value.slice (some ⟨b, off, none⟩) (T' ++ [m]).length c') = .slice (some ⟨b, off, none⟩) tl c' := by rw [htl, htl2]
   rw [hsv]
   have htI : (0 : Int) < (tl : Int) := by omega
   have hktI : (kt : Int) < (tl : Int) := by omega
   have hw : IntKind.i64.wrap ((tl : Int) - 1) = (kt : Int) := by simp [IntKind.wrap, IntKind.bits, IntKind.signed]; omega
   have rc := fun X => run_cut_hi elMod (some ⟨b, off, none⟩) tl c' kt (by omega) X
   have HKT := Lib.hid hkt
   have hktn : kt ≤ 1100000 := by omega
   have hR := HN.out.todo m (by simp)
   have HOK := Lib.hid (HRok.out m hR)
   have HW1 := Lib.hid (HB.out.alloc HB.out.size (.cells #[.string ⟨m.1.toArray⟩, .int .i64 m.2.1, .int .i64 m.2.2.1, .int .i64 m.2.2.2] 26))
   have HS1 := Lib.hid (HS.out.alloc (.cells #[.string ⟨m.1.toArray⟩, .int .i64 m.2.1, .int .i64 m.2.2.1, .int .i64 m.2.2.2] 26))
   have hlook := HS1.out.look Tryz.underlying136 (zeroBool _) m HOK.out.ok
   rw [seenM_get] at hlook
   have hlook' : (Instr.lookup 136 (.map (some w.heap.size)) (.agg #[.string ⟨m.1.toArray⟩, .int .i64 m.2.1, .int .i64 m.2.2.1, .int .i64 m.2.2.2]) false).run Tryz.prog (wr.alloc (.cells #[.string ⟨m.1.toArray⟩, .int .i64 m.2.1, .int .i64 m.2.2.1, .int .i64 m.2.2.2] 26)) = _ := hlook
   clear hlook hown hown2 hS4 hget hsv htl hkt hR HT
   by_cases hmS : m ∈ S
   ·rw [decide_eq_true hmS] at hlook'
    have HN2 := Lib.hid (HN.out.old hmS)
    clear hmS HN
    go_wp2
    go_roundg (gk - 1)
    case measure => omega
    case rel => exact ⟨S, T', p, k, by have := HKT.out; omega, by omega, by omega, rfl, Lib.hid (.inr ⟨_, _, by rw [← HKT.out], by have := HKT.out; omega, by rw [← HKT.out]; exact HO2.out⟩), HN2, HS1, HP, HW1, by simp; omega⟩
   ·rw [decide_eq_false hmS] at hlook'
    have HN2 := Lib.hid (HN.out.new hmS)
    have HSl := HN2.out.len
    simp only [List.length_append, List.length_singleton] at HSl
    obtain ⟨w2, hput, hm2, hg2⟩ := HS1.out.put Tryz.underlying136 (by unfold maxLen; omega) m HOK.out.ok (.bool true)
    rw [seenM_put] at hm2
    have hput' : (Instr.mapUpdate 136 (.map (some w.heap.size)) (.agg #[.string ⟨m.1.toArray⟩, .int .i64 m.2.1, .int .i64 m.2.2.1, .int .i64 m.2.2.2]) (.bool true)).run Tryz.prog (wr.alloc (.cells #[.string ⟨m.1.toArray⟩, .int .i64 m.2.1, .int .i64 m.2.2.1, .int .i64 m.2.2.2] 26)) = _ := hput
    have hz2 := hg2.size
    rw [World.size_alloc] at hz2
    have HW2 := Lib.hid (HW1.out.grown hg2 HW1.out.size (by simp))
    have HS2 := Lib.hid hm2
    have HO3 := Lib.hid (HO2.out.kept hg2 (.inr (fun e => by have := (HO2.out.lt _ e).1; omega)))
    have Q1 := Blk.new wr 26 #[.string ⟨m.1.toArray⟩, .int .i64 m.2.1, .int .i64 m.2.2.1, .int .i64 m.2.2.2]
    have Q2 : Blk w2 wr.heap.size 26 #[.string ⟨m.1.toArray⟩, .int .i64 m.2.1, .int .i64 m.2.2.1, .int .i64 m.2.2.2] := (hg2.block wr.heap.size (by simp) (by intro e; injection e with e; omega)).trans Q1
    have y0 := Q2.cell 0
    have y1 := Q2.cell 1
    have y2 := Q2.cell 2
    have y3 := Q2.cell 3
    simp at y0 y1 y2 y3
    have hMW := HM.out.below HW2.out
    have hlk := hMW.look_ok Tryz.underlying114 (manZero _) m HOK.out.ok
    have HQ2 := Lib.hid Q2
    clear hput hm2 hg2 Q1 Q2 hMW HN HS HS1 HO2 HB
    have HPN := Lib.hid (show ∀ q' : Bool, (q' = true ↔ p = true ∧ (m.1 = path ∨ hasR (regW Y) m = true)) → (q' = true ↔ ∀ x ∈ S ++ [m], x.1 = path ∨ hasR (regW Y) x = true) from fun q' h => by
     rw [h, HP.out]
     constructor
     ·rintro ⟨h1, h2⟩ x hx
      rcases List.mem_append.1 hx with h3 | h3
      ·exact h1 x h3
      ·obtain rfl : x = m := by simpa using h3
       exact h2
     ·exact fun h1 => ⟨fun x hx => h1 x (by simp [hx]), h1 m (by simp)⟩)
    have HRQ := Lib.hid (reqOf_find Y m)
    have HHR := Lib.hid (hasR_find Y m)
    have hff : findF Y m = (Y.find? fun y => decide (y.1 = m)).map manV := rfl
    rw [hff] at hlk
    clear hff HP
    cases hfy : Y.find? fun y => decide (y.1 = m) with
    | none =>
      rw [hfy] at hlk HRQ HHR
      have hlk' : (Instr.lookup 114 (.map (some br)) (.agg #[.string ⟨m.1.toArray⟩, .int .i64 m.2.1, .int .i64 m.2.2.1, .int .i64 m.2.2.2]) true).run Tryz.prog w2 = .ok (.tuple #[.agg #[.string ⟨#[]⟩, .int .i64 0, .int .i64 0, .int .i64 0, .slice none 0 0], .bool false]) w2 := hlk
      have HRQ' : Hid (reqOf (regW Y) m = []) := HRQ
      have HA2 := Lib.hid (show Below w2.heap.size w2 (w2.alloc (.cells #[.string ⟨#[]⟩, .int .i64 0, .int .i64 0, .int .i64 0, .slice none 0 0] 29)) from (Below.refl _ _).alloc (Nat.le_refl _) _)
      have HHR' : Hid (hasR (regW Y) m = false) := HHR
      have HO4 := Lib.hid (own_below2 HO3.out HA2.out)
      have hz4 : w.heap.size + 1 ≤ (w2.alloc (.cells #[.string ⟨#[]⟩, .int .i64 0, .int .i64 0, .int .i64 0, .slice none 0 0] 29)).heap.size := by simp; omega
      have y0a := cell_keep_alloc (.cells #[.string ⟨#[]⟩, .int .i64 0, .int .i64 0, .int .i64 0, .slice none 0 0] 29) y0
      clear hlk HRQ HHR hfy
      have b0 : kt + 0 ≤ maxLen := by unfold maxLen; omega
      have b1 : (kt + 0) * 40 ≤ 140737488355328 := by omega
      by_cases hp : m.1 = path
      ·have hp1 : (m.1 == path) = true := by rw [hp]; exact beq_self_eq_true _
       have hp2 : (m.1 != path) = false := by rw [hp]; simp
       have HPP := Lib.hid hp
       clear hp
       go_wp2_with (at_builtin; refine wpList_own1 rfl (.tmp 50) (.tmp 52) rfl (w.heap.size + 1) elMod (.slice (some ⟨b, off, none⟩) kt c') kt _ rfl HO4.out none 0 0 [] rfl ⟨rfl, fun h => absurd h (by decide)⟩ (by simp) b0 b1 hz4 ?_; intro v' w5 hown5 hgrow5 hb5)
       have HB35 := Lib.hid ((HA2.out.mono (show w.heap.size + 1 ≤ w2.heap.size by omega)).trans hb5)
       clear hb5 hgrow5
       go_wp2
       go_roundg (gk - 1)
       case measure => omega
       case rel => exact ⟨S ++ [m], T' ++ reqOf (regW Y) m, p, k + 1, by rw [HRQ'.out]; have := HKT.out; simp only [List.length_append, List.length_singleton, List.length_nil]; omega, by omega, by omega, rfl, Lib.hid (todo_of hown5 (by rw [HRQ'.out]; have := HKT.out; simp; omega) (by rw [HRQ'.out]; simp)), HN2, Lib.hid (HS2.out.same (HB35.out.block _ (Nat.lt_succ_self _))), Lib.hid (HPN.out _ (by simp [HPP.out])), Lib.hid (HW2.out.trans (HB35.out.mono (Nat.le_succ _))), by have := HB35.out.size; omega⟩
      ·have hp1 : (m.1 == path) = false := beq_eq_false_iff_ne.2 hp
       have hp2 : (m.1 != path) = true := bne_iff_ne.2 hp
       have HPP := Lib.hid hp
       clear hp
       go_wp2_with (at_builtin; refine wpList_own1 rfl (.tmp 50) (.tmp 52) rfl (w.heap.size + 1) elMod (.slice (some ⟨b, off, none⟩) kt c') kt _ rfl HO4.out none 0 0 [] rfl ⟨rfl, fun h => absurd h (by decide)⟩ (by simp) b0 b1 hz4 ?_; intro v' w5 hown5 hgrow5 hb5)
       have HB35 := Lib.hid ((HA2.out.mono (show w.heap.size + 1 ≤ w2.heap.size by omega)).trans hb5)
       clear hb5 hgrow5
       go_wp2
       go_roundg (gk - 1)
       case measure => omega
       case rel => exact ⟨S ++ [m], T' ++ reqOf (regW Y) m, false, k + 1, by rw [HRQ'.out]; have := HKT.out; simp only [List.length_append, List.length_singleton, List.length_nil]; omega, by omega, by omega, rfl, Lib.hid (todo_of hown5 (by rw [HRQ'.out]; have := HKT.out; simp; omega) (by rw [HRQ'.out]; simp)), HN2, Lib.hid (HS2.out.same (HB35.out.block _ (Nat.lt_succ_self _))), Lib.hid (HPN.out _ (by simp [HPP.out, HHR'.out])), Lib.hid (HW2.out.trans (HB35.out.mono (Nat.le_succ _))), by have := HB35.out.size; omega⟩
    | some y =>
      rw [hfy] at hlk HRQ HHR
      obtain ⟨hy1, hy2, _⟩ := HY.out y (List.mem_of_find?_eq_some hfy)
      obtain ⟨m1, A1, c1, l1⟩ := y
      simp only at hy1 hy2
      have hlk' : (Instr.lookup 114 (.map (some br)) (.agg #[.string ⟨m.1.toArray⟩, .int .i64 m.2.1, .int .i64 m.2.2.1, .int .i64 m.2.2.2]) true).run Tryz.prog w2 = .ok (.tuple #[.agg #[.string ⟨m1.1.toArray⟩, .int .i64 m1.2.1, .int .i64 m1.2.2.1, .int .i64 m1.2.2.2, .slice A1 l1.length c1], .bool true]) w2 := hlk
      have HRQ' : Hid (reqOf (regW Y) m = l1) := HRQ
      have HHR' : Hid (hasR (regW Y) m = true) := HHR
      have HA2 := Lib.hid (show Below w2.heap.size w2 (w2.alloc (.cells #[.string ⟨m1.1.toArray⟩, .int .i64 m1.2.1, .int .i64 m1.2.2.1, .int .i64 m1.2.2.2, .slice A1 l1.length c1] 29)) from (Below.refl _ _).alloc (Nat.le_refl _) _)
      have HO4 := Lib.hid (own_below2 HO3.out HA2.out)
      have HSR := Lib.hid (((hy1.below HW2.out).below (HA2.out.mono HW2.out.size)).src encM_len)
      have hz4 : w.heap.size + 1 ≤ (w2.alloc (.cells #[.string ⟨m1.1.toArray⟩, .int .i64 m1.2.1, .int .i64 m1.2.2.1, .int .i64 m1.2.2.2, .slice A1 l1.length c1] 29)).heap.size := by simp; omega
      have y0a := cell_keep_alloc (.cells #[.string ⟨m1.1.toArray⟩, .int .i64 m1.2.1, .int .i64 m1.2.2.1, .int .i64 m1.2.2.2, .slice A1 l1.length c1] 29) y0
      clear hlk HRQ HHR hfy hy1
      have b0 : kt + l1.length ≤ maxLen := by unfold maxLen; omega
      have b1 : (kt + l1.length) * 40 ≤ 140737488355328 := by omega
      go_wp2_with (at_builtin; refine wpList_own1 rfl (.tmp 50) (.tmp 52) rfl (w.heap.size + 1) elMod (.slice (some ⟨b, off, none⟩) kt c') kt _ rfl HO4.out A1 l1.length c1 _ rfl HSR.out (encM_one _) b0 b1 hz4 ?_; intro v' w5 hown5 hgrow5 hb5)
      have HB35 := Lib.hid ((HA2.out.mono (show w.heap.size + 1 ≤ w2.heap.size by omega)).trans hb5)
      clear hb5 hgrow5
      go_wp2
      go_roundg (gk - 1)
      case measure => omega
      case rel => exact ⟨S ++ [m], T' ++ reqOf (regW Y) m, p, k + 1, by rw [HRQ'.out]; have := HKT.out; simp only [List.length_append, List.length_singleton]; omega, by omega, by omega, rfl, Lib.hid (todo_of hown5 (by rw [HRQ'.out]; have := HKT.out; simp; omega) (by rw [HRQ'.out, List.flatMap_append])), HN2, Lib.hid (HS2.out.same (HB35.out.block _ (Nat.lt_succ_self _))), Lib.hid (HPN.out _ (by simp [HHR'.out])), Lib.hid (HW2.out.trans (HB35.out.mono (Nat.le_succ _))), by have := HB35.out.size; omega⟩
end Go.Proofs.YthcgihgajdjfoaaGreatDoor
namespace Go.Proofs.YthcgihgajdjfoaaGreatDoor
open Go.RowKit Go.Sort
def manW (r : RelA) : ManW := (r.m, r.A, r.c, r.l)
theorem encW_len5 (y : ManW) : (encW y).length = 5 := rfl
theorem elMan : ElT Tryz.prog 72 29 5 64 := ElT.mk_ (z := .agg #[.string ByteArray.empty, .int .i64 0, .int .i64 0, .int .i64 0, .slice none 0 0]) Tryz.underlying72 (by kernel_rfl) rfl (by decide)
theorem Src.lit2 (w : World) (size e : Nat) (cs : Array Value) (m : Nat) (h : cs.size = m * size) {g : Nat} (hg : w.heap.size = g) : Src (w.alloc (.cells cs e)) size (some ⟨g, 0, none⟩) m cs.toList := by
 subst hg
 exact Src.lit w size e cs m h
theorem mans_snoc (L : List RelA) {k : Nat} (h : k < L.length) : ((L.take (k + 1)).map manW).flatMap encW = ((L.take k).map manW).flatMap encW ++ encW (manW L[k]) := by
 rw [List.take_succ_eq_append_getElem h, List.map_append, List.flatMap_append]
 simp
set_option maxRecDepth 100000 in
set_option maxHeartbeats 4000000 in
theorem manifests_any (A : Option Addr) (c : Nat) (L : List RelA) (w : World) (hA : Sl w w.heap.size 6 encR A L) (hl : L.length ≤ 1000000) :
  Calls Tryz.prog 29 #[.slice A L.length c] w fun e w' => ∃ A' c', e = .returned (.slice A' L.length c') ∧ Sl w' w'.heap.size 5 encW A' (L.map manW) ∧ Below w.heap.size w w' := by
 have HA := Lib.hid hA
 have HL := Lib.hid hl
 clear hA hl
 go_enter Tryz.func29, Tryz.ntmps29
 go_wp2
 go_loopw [3, 8] (fun v i wr => ∃ (k : Nat) (Av : Option Addr) (cv : Nat), k ≤ L.length ∧ i = .int .i64 (k : Nat) ∧ v = .slice Av k cv ∧ Hid (wr.ownsRow w.heap.size 29 5 (.slice Av k cv) k (((L.take k).map manW).flatMap encW)) ∧ Hid (Below w.heap.size w wr)) (fun _ i _ => L.length - (intOf i).toNat)
 case atStart => exact ⟨0, none, 0, Nat.zero_le _, rfl, rfl, Lib.hid (World.ownsRow_nil _ _ _ _), Lib.hid (Below.refl _ _)⟩
 case round =>
  obtain ⟨wo, hwo⟩ : ∃ wo, wo = wr := ⟨_, rfl⟩
  subst hwo
  obtain ⟨k, Av, cv, hk, rfl, rfl, HO, HB⟩ := hrel
  have hzo := HB.out.size
  by_cases hlt : k < L.length
  ·have hlt' : (k : Int) < (L.length : Int) := by omega
   obtain ⟨b, off, hA1, hbB, g0, g1, g2, g3, g4, g5⟩ := (HA.out.below HB.out).rel hlt
   have HS := Lib.hid (mans_snoc L hlt)
   have HA1 := Lib.hid hA1
   subst hA1
   generalize L[k] = r at g0 g1 g2 g3 g4 g5 HS
   obtain ⟨W1, hW1⟩ : ∃ W1, W1 = (wo.alloc (.cells #[.string ⟨r.m.1.toArray⟩, .int .i64 r.m.2.1, .int .i64 r.m.2.2.1, .int .i64 r.m.2.2.2, .slice r.A r.l.length r.c, .slice r.A' r.s.length r.c'] 62)).alloc (.cells #[.string ⟨r.m.1.toArray⟩, .int .i64 r.m.2.1, .int .i64 r.m.2.2.1, .int .i64 r.m.2.2.2, .slice r.A r.l.length r.c] 29) := ⟨_, rfl⟩
   have HW := Lib.hid (show Below wo.heap.size wo W1 from by rw [hW1]; exact ((Below.refl _ _).alloc (Nat.le_refl _) _).alloc (by simp) _)
   have HOW := Lib.hid (own_below2 HO.out HW.out)
   have b0 : k + 1 ≤ maxLen := by have := HL.out; unfold maxLen; omega
   have b1 : (k + 1) * 64 ≤ 140737488355328 := by have := HL.out; omega
   have hbz : w.heap.size ≤ W1.heap.size := Nat.le_trans hzo HW.out.size
   rw [hW1] at HOW hbz HW
   clear hW1
   go_wp2_with (at_builtin; refine wpList_own rfl (.tmp 12) (.tmp 15) rfl w.heap.size elMan (.slice Av k cv) k _ rfl HOW.out _ 1 _ _ rfl (Src.lit2 _ 5 _ _ 1 rfl (by simp)) (by decide) (by simp [Value.oneCell']) b0 b1 hbz ?_; intro v' w7 hown7 hgrow7 hb7; obtain ⟨A7, c7, rfl⟩ := Acc.shape (.inl hown7); have HOWN := Lib.hid hown7; have HB7 := Lib.hid hb7; clear hown7 hgrow7 hb7)
   go_roundw
   case rel => exact ⟨k + 1, A7, c7, by omega, by go_num, rfl, Lib.hid (by rw [HS.out]; simpa [encW, manW] using HOWN.out), Lib.hid ((HB.out.trans (HW.out.mono hzo)).trans HB7.out)⟩
   case measure => first | (simp [intOf]; done) | (simp [intOf]; omega)
  ·obtain rfl : k = L.length := by omega
   have HT := Lib.hid (show Sl wo wo.heap.size 5 encW Av (L.map manW) from Acc.slAny (.inl (by
    have h := HO.out
    rw [List.take_length] at h
    exact h)) encW_len5 (by decide))
   go_wp2
   go_ret
   exact ⟨Av, cv, rfl, HT.out, HB.out⟩
end Go.Proofs.YthcgihgajdjfoaaGreatDoor
namespace Go.Proofs.YthcgihgajdjfoaaGreatDoor
open Go.RowKit Go.Sort
theorem grown_set (W : World) (p : Addr) (v : Value) : W.grownBy (W.setCell p v) (some p.block) := ⟨rfl, rfl, rfl, by simp [World.setCell], fun k _ hk => Below.heap_setCell W p v k (fun e => hk (by rw [e]))⟩
theorem own_apart {W : World} {base e size n : Nat} {v : Value} {xs : List Value} (h : W.ownsRow base e size v n xs) {b : Nat} (hb : b < base) : v.ownBlock ≠ some b := fun e => by have := (h.lt _ e).1; omega
theorem own_set {W : World} {base e size n : Nat} {v : Value} {xs : List Value} (h : W.ownsRow base e size v n xs) {p : Addr} (hb : p.block < base) (u : Value) : (W.setCell p u).ownsRow base e size v n xs := h.kept (grown_set W p u) (.inr (own_apart h hb))
end Go.Proofs.YthcgihgajdjfoaaGreatDoor
