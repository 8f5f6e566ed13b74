/- Words for memory, more: slices cut. -/
import Derived.Test.YtbbdoibmcmkmnaaGreatDoorMem2
namespace Go.Proofs.YtbbdoibmcmkmnaaGreatDoor
open Go.RowKit

theorem Acc.slAny {α : Type} {enc : α → List Value} {w : World} {base e k c n : Nat} {A : Option Addr} {l : List α} (h : Acc w base e k (.slice A n c) n (l.flatMap enc)) (hk : ∀ x, (enc x).length = k) (h0 : 0 < k) : Sl w w.heap.size k enc A l := (h.sl hk h0).2

theorem Acc.addr {w : World} {base e size n c : Nat} {A : Option Addr} {xs : List Value} (h : Acc w base e size (.slice A n c) n xs) : (A = none ∧ n = 0 ∧ c = 0) ∨ ∃ g off, A = some ⟨g, off, none⟩ ∧ n ≤ c := by
  rcases h with h | ⟨_, g, off, e, _⟩
  · rcases h.2 with ⟨e, h0⟩ | ⟨g, cap, cur, e, _, _, hn, _⟩
    · injection e with e1 e2 e3
      exact .inl ⟨e1, h0, e3⟩
    · injection e with e1 e2 e3
      exact .inr ⟨g, 0, e1, by omega⟩
  · injection e with e1 e2 e3
    exact .inr ⟨g, off, e1, by omega⟩
theorem Acc.cap {w : World} {base e size n c : Nat} {A : Option Addr} {xs : List Value} (h : Acc w base e size (.slice A n c) n xs) : n ≤ c := by
  rcases h.addr with ⟨_, rfl, rfl⟩ | ⟨g, off, _, h⟩
  · exact Nat.le_refl _
  · exact h
theorem _root_.Go.RowKit.Below.drewN {B : Nat} {a w : World} (h : Below B a w) (n : Nat) : Below B a (w.drewN n) := ⟨h.os, h.tape, h.output, h.size, h.block⟩
theorem Acc.less {w : World} {base base' e size n : Nat} {v : Value} {xs : List Value} (h : Acc w base e size v n xs) (hb : base' ≤ base) : Acc w base' e size v n xs := by
  rcases h with h | h
  · refine .inl ⟨h.1, ?_⟩
    rcases h.2 with h | ⟨g, cap, cur, h1, h2, h3⟩
    · exact .inl h
    · exact .inr ⟨g, cap, cur, h1, Nat.le_trans hb h2, h3⟩
  · exact .inr h
theorem Sl.take {α : Type} {w : World} {B k : Nat} {enc : α → List Value} {A : Option Addr} {l : List α} (h : Sl w B k enc A l) (n : Nat) : Sl w B k enc A (l.take n) := by
  rcases h with rfl | ⟨b, off, e, hb, hc⟩
  · exact .inl (by simp)
  · refine .inr ⟨b, off, e, hb, fun i hi j v hv => ?_⟩
    simp at hi
    exact hc i (by omega) j v (by simpa using hv)
/-- the address of a slice that is cut at its head -/
def cutA (A : Option Addr) (c a size : Nat) : Option Addr := if c = a then A else A.map (·.add (a * size))
theorem Sl.drop {α : Type} {w : World} {B k : Nat} {enc : α → List Value} {A : Option Addr} {l : List α} (h : Sl w B k enc A l) (c n : Nat) (hc : l.length ≤ c) : Sl w B k enc (cutA A c n k) (l.drop n) := by
  rcases h with rfl | ⟨b, off, rfl, hb, hcs⟩
  · exact .inl (by simp)
  · unfold cutA
    split
    · subst c
      exact .inl (by simpa using hc)
    · refine .inr ⟨b, off + n * k, by simp [Addr.add], hb, fun i hi j v hv => ?_⟩
      simp at hi
      have := hcs (n + i) (by omega) j v (by simpa using hv)
      rw [Nat.add_mul, ← Nat.add_assoc] at this
      exact this
section
variable {P : Program} {t e size bytes : Nat}
theorem run_cut_lo (hT : ElT P t e size bytes) (A : Option Addr) (n c a : Nat) (ha : a ≤ n) (w : World) :
    (Instr.slice t (.slice A n c) (some (.int .i64 (a : Int))) none none).run P w = .ok (.slice (cutA A c a size) (n - a) (c - a)) w := by
  obtain ⟨ht, hsz, i, z, hi, hz, hs, hby, hzs⟩ := hT
  have h1 : (0 : Int) ≤ (a : Int) ∧ (a : Int) ≤ (n : Int) := by omega
  simp [Instr.slice, Instr.sliceBounds, Instr.sliceBound, run_underlying ht, sizeOf, typeInfo, hi, asIntOf, h1, ha, cutA, hs]
theorem run_cut_hi (hT : ElT P t e size bytes) (A : Option Addr) (n c a : Nat) (ha : a ≤ c) (w : World) :
    (Instr.slice t (.slice A n c) none (some (.int .i64 (a : Int))) none).run P w = .ok (.slice A a c) w := by
  obtain ⟨ht, hsz, i, z, hi, hz, hs, hby, hzs⟩ := hT
  simp [Instr.slice, Instr.sliceBounds, Instr.sliceBound, run_underlying ht, sizeOf, typeInfo, hi, asIntOf, ha]
  rcases A with _ | A
  · simp
  · intro _; simp [Addr.add]
theorem run_own (w : World) (hT : ElT P t e size bytes) (base ty : Nat) (v : Value) (n : Nat) (xs : List Value) (hown : w.ownsRow base e size v n xs)
    (A : Option Addr) (m c : Nat) (news : List Value) (hsrc : Src w size A m news) (hm : 0 < m) (h1 : ∀ u ∈ news, u.oneCell' = true)
    (h63 : n + m ≤ maxLen) (hbytes : (n + m) * bytes ≤ 140737488355328) (hbase : base ≤ w.heap.size) :
    ∃ v' w', (Builtin.append_ #[t, t] ty #[v, .slice A m c]).run P w = .ok v' w' ∧ w'.ownsRow base e size v' (n + m) (xs ++ news) ∧ w.grownBy w' v.ownBlock ∧ Below base w w' := by
  obtain ⟨ht, hsz, i, z, hi, hz, hs, hby, hzs⟩ := hT
  obtain ⟨ad, rfl, hc⟩ := hsrc.2 hm
  obtain ⟨v', w', hr, h2, h3, h4, h5⟩ := run_append_own_at (P := P) w base t ty e i z size bytes ht hi hz hs hby hzs hsz v n xs hown ad m c news hsrc.1 hc h1 h63 hbytes hbase
  exact ⟨v', w', hr, h2, h3, (Below.refl _ _).grown h3 hbase (fun k hk => (hown.lt k hk).1)⟩
theorem wp_own {o : Oper} {a : Act} {w : World} {K : Act → World → Prop} {Q : Exit → Act → World → Prop} (s x : Operand)
    (ho : o.op = .call { callee := .builtin .append, args := #[s, x], argTypes := #[t, t] })
    (base : Nat) (hT : ElT P t e size bytes) (v : Value) (n : Nat) (xs : List Value) (hs : a.eval s = v) (hown : w.ownsRow base e size v n xs)
    (A : Option Addr) (m c : Nat) (news : List Value) (hx : a.eval x = .slice A m c) (hsrc : Src w size A m news) (hm : 0 < m) (h1 : ∀ u ∈ news, u.oneCell' = true)
    (h63 : n + m ≤ maxLen) (hbytes : (n + m) * bytes ≤ 140737488355328) (hbase : base ≤ w.heap.size)
    (h : ∀ v' w', w'.ownsRow base e size v' (n + m) (xs ++ news) → w.grownBy w' v.ownBlock → Below base w w' → K (a.put o.dst v') w') : o.wp P a w K Q := by
  obtain ⟨v', w', hrun, h2, h3, h4⟩ := run_own (P := P) w hT base o.type v n xs hown A m c news hsrc hm h1 h63 hbytes hbase
  unfold Oper.wp execOp
  simp only [ho, resolve, invoke, builtin, Sem.run_bind, Sem.run_pure, Result.andThen_ok, List.map_toArray, List.map_cons, List.map_nil, hs, hx, hrun]
  exact h v' w' h2 h3 h4
/-- append to an own row, for the walk -/
theorem wpList_own {w : World} {ops : Array Oper} {rest : List Oper} {o : Oper} {a : Act} {Q : Exit → Act → World → Prop} (hgd : o.guard = none) (s x : Operand)
    (ho : o.op = .call { callee := .builtin .append, args := #[s, x], argTypes := #[t, t] })
    (base : Nat) (hT : ElT P t e size bytes) (v : Value) (n : Nat) (xs : List Value) (hs : a.eval s = v) (hown : w.ownsRow base e size v n xs)
    (A : Option Addr) (m c : Nat) (news : List Value) (hx : a.eval x = .slice A m c) (hsrc : Src w size A m news) (hm : 0 < m) (h1 : ∀ u ∈ news, u.oneCell' = true)
    (h63 : n + m ≤ maxLen) (hbytes : (n + m) * bytes ≤ 140737488355328) (hbase : base ≤ w.heap.size)
    (h : ∀ v' w', w'.ownsRow base e size v' (n + m) (xs ++ news) → w.grownBy w' v.ownBlock → Below base w w' → wpList P ops Q rest (a.put o.dst v') w') : wpList P ops Q (o :: rest) a w :=
  wpList_plain hgd fun _ hK => wp_own s x ho base hT v n xs hs hown A m c news hx hsrc hm h1 h63 hbytes hbase fun v' w' h2 h3 h4 => hK _ _ (h v' w' h2 h3 h4)
/-- the same in a region that draws its order -/
theorem step_own {w : World} {ops : Array Oper} {o : Oper} {a : Act} {K : Act → World → Prop} {Q : Exit → Act → World → Prop} {E : Prop} (hgd : o.guard = none) (s x : Operand)
    (ho : o.op = .call { callee := .builtin .append, args := #[s, x], argTypes := #[t, t] })
    (base : Nat) (hT : ElT P t e size bytes) (v : Value) (n : Nat) (xs : List Value) (hs : a.eval s = v) (hown : w.ownsRow base e size v n xs)
    (A : Option Addr) (m c : Nat) (news : List Value) (hx : a.eval x = .slice A m c) (hsrc : Src w size A m news) (hm : 0 < m) (h1 : ∀ u ∈ news, u.oneCell' = true)
    (h63 : n + m ≤ maxLen) (hbytes : (n + m) * bytes ≤ 140737488355328) (hbase : base ≤ w.heap.size)
    (h : ∀ v' w', w'.ownsRow base e size v' (n + m) (xs ++ news) → w.grownBy w' v.ownBlock → Below base w w' → K (a.put o.dst v') w') :
    if Region.wanted o (yielded ops a.tmps) = true then Oper.wp P o a w K Q else E := by
  have hw : Region.wanted o (yielded ops a.tmps) = true := by simp [Region.wanted, hgd]
  rw [if_pos hw]
  exact wp_own s x ho base hT v n xs hs hown A m c news hx hsrc hm h1 h63 hbytes hbase h
end
end Go.Proofs.YtbbdoibmcmkmnaaGreatDoor
