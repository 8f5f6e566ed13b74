/- What the claim needs of: PA Mem WA WB. -/
import Derived.Below
import Derived.Laws.OwnMore
import Derived.Deep.AppendLies
import Derived.Deep.Draws
import Derived.OwnWalk
import Derived.Maps.AppendAt
import Derived.ArgAppend
import Derived.RegionTactic
import Derived.Laws.IdiomStrings
import Derived.Laws.BytesString
import Derived.Test.YthcgihgajdjfoaaGreatDoorProg
import Derived.WalkKit
import Derived.Lib.Hide
import Derived.WalkSpells
import Derived.WalkLawsBesides
import Derived.Lib.SlBytesConst
namespace Go.Proofs.YthcgihgajdjfoaaGreatDoor
open Go.RowKit
def fstep (n : Nat) (c : UInt8) : Nat := ((n ^^^ c.toNat) * 1099511628211) % 18446744073709551616
def fnv (n : Nat) (l : List UInt8) : Nat := l.foldl fstep n
def fstart : Nat := 14695981039346656037
theorem fstep_lt (n : Nat) (c : UInt8) : fstep n c < 18446744073709551616 := by unfold fstep; omega
theorem fnv_lt (n : Nat) (l : List UInt8) (h : n < 18446744073709551616) : fnv n l < 18446744073709551616 := by
 unfold fnv
 induction l generalizing n with
 | nil => simpa only [List.foldl_nil] using h
 | cons c l ih => rw [List.foldl_cons]; exact ih _ (fstep_lt n c)
theorem fnv_snoc (n : Nat) (l : List UInt8) (c : UInt8) : fnv n (l ++ [c]) = fstep (fnv n l) c := by unfold fnv; rw [List.foldl_append, List.foldl_cons, List.foldl_nil]
theorem fnv_append (n : Nat) (l m : List UInt8) : fnv n (l ++ m) = fnv (fnv n l) m := by unfold fnv; rw [List.foldl_append]
theorem take_snoc (l : List UInt8) (k : Nat) (h : k < l.length) : l.take (k + 1) = l.take k ++ [l[k]] := by
 rw [List.take_succ_eq_append_getElem h]
def hexd (n : Nat) : UInt8 := [48, 49, 50, 51, 52, 53, 54, 55, 56, 57, 97, 98, 99, 100, 101, 102].getD n 0
def hexs : Nat → Nat → List UInt8
 | 0, _ => []
 | k + 1, n => hexs k (n / 16) ++ [hexd (n % 16)]
def dtext (n : Nat) : List UInt8 := [104, 58] ++ hexs 16 n
end Go.Proofs.YthcgihgajdjfoaaGreatDoor
namespace Go.Proofs.YthcgihgajdjfoaaGreatDoor
open Go.RowKit
structure BelowD (B : Nat) (w w' : World) : Prop extends Below B w w' where
 drawn : w.drawn ≤ w'.drawn
section
variable {B B' : Nat} {a w w' : World}
theorem BelowD.refl (B : Nat) (w : World) : BelowD B w w := ⟨Below.refl B w, Nat.le_refl _⟩
theorem BelowD.trans (h : BelowD B a w) (k : BelowD B w w') : BelowD B a w' := ⟨h.toBelow.trans k.toBelow, Nat.le_trans h.drawn k.drawn⟩
theorem BelowD.mono (h : BelowD B w w') (hB : B' ≤ B) : BelowD B' w w' := ⟨h.toBelow.mono hB, h.drawn⟩
theorem BelowD.drew (h : BelowD B a w) : BelowD B a w.drew := ⟨h.toBelow.drew, Nat.le_succ_of_le h.drawn⟩
theorem BelowD.drewN (h : BelowD B a w) (n : Nat) : BelowD B a (w.drewN n) := ⟨⟨h.os, h.tape, h.output, h.size, h.block⟩, Nat.le_add_right_of_le h.drawn⟩
theorem BelowD.alloc (h : BelowD B a w) (hB : B ≤ w.heap.size) (o : Obj) : BelowD B a (w.alloc o) := ⟨h.toBelow.alloc hB o, h.drawn⟩
theorem BelowD.setCell (h : BelowD B a w) {p : Addr} (hp : B ≤ p.block) (u : Value) : BelowD B a (w.setCell p u) := ⟨h.toBelow.setCell hp u, h.drawn⟩
end
def Sl {α : Type} (w : World) (B k : Nat) (enc : α → List Value) (A : Option Addr) (l : List α) : Prop :=
 l = [] ∨ ∃ b off, A = some ⟨b, off, none⟩ ∧ b < B ∧ ∀ (i : Nat) (h : i < l.length) (j : Nat) (v : Value), (enc l[i])[j]? = some v → w.cell? ⟨b, off + i * k + j, none⟩ = some v
section
variable {α : Type} {w w' : World} {B B' k : Nat} {enc : α → List Value} {A : Option Addr} {l : List α}
theorem Sl.nil_ : Sl w B k enc A ([] : List α) := .inl rfl
theorem Sl.keep (h : Sl w B k enc A l) (hk : ∀ p : Addr, p.block < B → w'.cell? p = w.cell? p) : Sl w' B k enc A l := by
 rcases h with h | ⟨b, off, e, hb, hc⟩
 ·exact .inl h
 ·exact .inr ⟨b, off, e, hb, fun i hi j v hv => (hk _ hb).trans (hc i hi j v hv)⟩
theorem Sl.more (h : Sl w B k enc A l) (hB : B ≤ B') : Sl w B' k enc A l := by
 rcases h with h | ⟨b, off, e, hb, hc⟩
 ·exact .inl h
 ·exact .inr ⟨b, off, e, Nat.lt_of_lt_of_le hb hB, hc⟩
theorem Sl.below (h : Sl w B k enc A l) (hb : Below B w w') : Sl w' B k enc A l := h.keep fun _ hp => hb.cell hp
theorem Sl.at_ (h : Sl w B k enc A l) {i : Nat} (hi : i < l.length) : ∃ b off, A = some ⟨b, off, none⟩ ∧ b < B ∧ ∀ (j : Nat) (v : Value), (enc l[i])[j]? = some v → w.cell? ⟨b, off + i * k + j, none⟩ = some v := by
 rcases h with h | ⟨b, off, e, hb, hc⟩
 ·subst h; simp at hi
 ·exact ⟨b, off, e, hb, hc i hi⟩
end
theorem below_cell {w w' : World} {p : Addr} {v : Value} (hb : Below w.heap.size w w') (h : w.cell? p = some v) (hp : p.block < w.heap.size) : w'.cell? p = some v := (hb.cell hp).trans h
theorem lt_of_cell {w : World} {p : Addr} {v : Value} (h : w.cell? p = some v) : p.block < w.heap.size := by
 rcases Nat.lt_or_ge p.block w.heap.size with hlt | hge
 ·exact hlt
 ·simp [World.cell?, Array.getElem?_eq_none hge] at h
theorem cell_keep {w w' : World} {p : Addr} {v : Value} (hb : Below w.heap.size w w') (h : w.cell? p = some v) : w'.cell? p = some v := (hb.cell (lt_of_cell h)).trans h
theorem cell_keep_alloc {w : World} {p : Addr} {v : Value} (o : Obj) (h : w.cell? p = some v) : (w.alloc o).cell? p = some v := cell_keep ((Below.refl _ _).alloc (Nat.le_refl _) _) h
theorem ret_int {k : IntKind} {a b : Int} (h : a = b) : Ending.returned (.int k a) = .returned (.int k b) := by rw [h]
theorem ret_bool {a b : Bool} (h : a = b) : Ending.returned (.bool a) = .returned (.bool b) := by rw [h]
def encS (s : List UInt8) : List Value := [.string ⟨s.toArray⟩]
theorem Sl.str {w : World} {B : Nat} {A : Option Addr} {l : List (List UInt8)} (h : Sl w B 1 encS A l) {i : Nat} (hi : i < l.length) :
  ∃ b off, A = some ⟨b, off, none⟩ ∧ b < B ∧ w.cell? ⟨b, off + i, none⟩ = some (.string ⟨(l[i]).toArray⟩) := by
 obtain ⟨b, off, e, hb, hc⟩ := h.at_ hi
 exact ⟨b, off, e, hb, by simpa using hc 0 _ rfl⟩
def ElT (P : Program) (t e size bytes : Nat) : Prop :=
 P.underlying t = some (.slice e) ∧ 0 < size ∧ ∃ i z, P.info? e = some i ∧ i.zero = some z ∧ i.size = size ∧ i.bytes = bytes ∧ z.cells.size = size
theorem ElT.mk_ {P : Program} {t e size bytes : Nat} {z : Value} (h1 : P.underlying t = some (.slice e)) (h : (P.info? e).map (fun i => (i.zero, i.size, i.bytes)) = some (some z, size, bytes))
  (hz : z.cells.size = size) (h0 : 0 < size) : ElT P t e size bytes := by
 obtain ⟨i, a, b, c, d⟩ := info_parts h
 exact ⟨h1, h0, i, z, a, b, c, d, hz⟩
def Acc (w : World) (base e size : Nat) (v : Value) (n : Nat) (xs : List Value) : Prop :=
 w.ownsRow base e size v n xs ∨ (xs.length = n * size ∧ ∃ g off, v = .slice (some ⟨g, off, none⟩) n n ∧ g < w.heap.size ∧ ∀ j u, xs[j]? = some u → w.cell? ⟨g, off + j, none⟩ = some u)
def Src (w : World) (size : Nat) (A : Option Addr) (m : Nat) (news : List Value) : Prop :=
 news.length = m * size ∧ (0 < m → ∃ ad, A = some ad ∧ ∀ j u, news[j]? = some u → w.cell? (ad.add j) = some u)
theorem Acc.length {w : World} {base e size n : Nat} {v : Value} {xs : List Value} (h : Acc w base e size v n xs) : xs.length = n * size := by
 rcases h with h | h
 ·exact h.1
 ·exact h.1
theorem Acc.nil_ (w : World) (base e size : Nat) : Acc w base e size (.slice none 0 0) 0 [] := .inl (World.ownsRow_nil _ _ _ _)
theorem Acc.kept {w w' : World} {base e size n : Nat} {v : Value} {xs : List Value} {row : Option Nat} (h : Acc w base e size v n xs) (hg : w.grownBy w' row) (hne : v.ownBlock = none ∨ v.ownBlock ≠ row) : Acc w' base e size v n xs := by
 rcases h with h | ⟨hl, g, off, rfl, hlt, hc⟩
 ·exact .inl (h.kept hg hne)
 ·refine .inr ⟨hl, g, off, rfl, Nat.lt_of_lt_of_le hlt hg.size, fun j u hu => hg.cell (hc j u hu) ?_⟩
  rcases hne with hne | hne
  ·simp [Value.ownBlock] at hne
  ·simpa [Value.ownBlock] using hne
theorem Acc.below {w w' : World} {base e size n : Nat} {v : Value} {xs : List Value} (h : Acc w base e size v n xs) (hb : Below w.heap.size w w') : Acc w' base e size v n xs :=
 h.kept (row := none) ⟨hb.os, hb.tape, hb.output, hb.size, fun k hk _ => hb.block k hk⟩ (by rcases hv : v.ownBlock with _ | _ <;> simp)
theorem Acc.alloc {w : World} {base e size n : Nat} {v : Value} {xs : List Value} (h : Acc w base e size v n xs) (o : Obj) : Acc (w.alloc o) base e size v n xs :=
 h.below ((Below.refl _ _).alloc (Nat.le_refl _) _)
theorem Acc.drewN {w : World} {base e size n : Nat} {v : Value} {xs : List Value} (h : Acc w base e size v n xs) (k : Nat) : Acc (w.drewN k) base e size v n xs := h
theorem Acc.shape {w : World} {base e size n : Nat} {v : Value} {xs : List Value} (h : Acc w base e size v n xs) : ∃ A c, v = .slice A n c := by
 rcases h with h | ⟨_, g, off, rfl, _⟩
 ·rcases h.2 with ⟨rfl, rfl⟩ | ⟨g, cap, cur, rfl, _⟩
  ·exact ⟨_, _, rfl⟩
  ·exact ⟨_, _, rfl⟩
 ·exact ⟨_, _, rfl⟩
theorem Acc.cells {w : World} {base e size n : Nat} {v : Value} {xs : List Value} (h : Acc w base e size v n xs) :
  n = 0 ∨ ∃ g off c, v = .slice (some ⟨g, off, none⟩) n c ∧ g < w.heap.size ∧ ∀ j u, xs[j]? = some u → w.cell? ⟨g, off + j, none⟩ = some u := by
 rcases h with h | ⟨_, g, off, rfl, hlt, hc⟩
 ·have hk := h
  rcases h.2 with ⟨rfl, rfl⟩ | ⟨g, cap, cur, rfl, _, hh, _⟩
  ·exact .inl rfl
  ·refine .inr ⟨g, 0, cap, rfl, ?_, fun j u hu => ?_⟩
   ·rcases Nat.lt_or_ge g w.heap.size with hlt | hge
    ·exact hlt
    ·rw [Array.getElem?_eq_none hge] at hh; cases hh
   ·have hj : j < n * size := by rw [← hk.1]; exact (List.getElem?_eq_some_iff.1 hu).1
    rw [Nat.zero_add, hk.cellAt j hj]
    exact hu
 ·exact .inr ⟨g, off, n, rfl, hlt, hc⟩
theorem Acc.marked (w : World) (cs : Array Value) (base e size n : Nat) (f : Nat × Nat) (h : cs.size = n * size) : Acc (w.alloc (.cells cs e f)) base e size (.slice (some ⟨w.heap.size, 0, none⟩) n n) n cs.toList :=
 .inr ⟨by simpa using h, w.heap.size, 0, rfl, by simp, fun j u hu => by
  have : cs[j]? = some u := by simpa using hu
  rw [Nat.zero_add, World.cell?_alloc_mark, this]⟩
def u8s (l : List UInt8) : List Value := l.map fun c => .int .u8 c.toNat
theorem Acc.str {P : Program} {w : World} {base e n c : Nat} {A : Option Addr} {l : List UInt8} (src dst : TypeId) (h : Acc w base e 1 (.slice A n c) n (u8s l)) (hs : P.underlying src = some (.slice e)) (he : P.underlying e = some (.int .u8)) (hd : P.underlying dst = some .string) :
  (convert src dst (.slice A n c)).run P w = .ok (.string ⟨l.toArray⟩) w := by
 have hl : l.length = n := by simpa [u8s] using h.length
 rcases h.cells with rfl | ⟨g, off, c', hv, _, hc⟩
 ·obtain rfl : l = [] := List.eq_nil_of_length_eq_zero hl
  rw [run_convert_bytes_string w src dst e A 0 c hs he hd]
  rcases A with _ | ad
  ·simp [Conv.bytesToString]
   rfl
  ·rw [run_bytesToString w ad 0 c [] (by simp [loadCells, loadCellsFrom])]
   rfl
 ·injection hv with h1 h2 h3
  subst h1 h3
  subst hl
  exact run_convert_bytes_back w src dst e ⟨g, off, none⟩ c l hs he hd (fun j hj => by
   rw [Addr.add_lit]
   exact hc j _ (by simp [u8s, hj]))
def strs (l : List (List UInt8)) : List Value := l.map fun s => .string ⟨s.toArray⟩
theorem strs_snoc (l : List (List UInt8)) (s : List UInt8) : strs (l ++ [s]) = strs l ++ [.string ⟨s.toArray⟩] := by simp [strs]
theorem Acc.strs_ {w : World} {base e n c : Nat} {A : Option Addr} {l : List (List UInt8)} (h : Acc w base e 1 (.slice A n c) n (strs l)) : n = l.length ∧ Sl w w.heap.size 1 encS A l := by
 have hl : l.length = n := by simpa [strs] using h.length
 refine ⟨hl.symm, ?_⟩
 rcases h.cells with h0 | ⟨g, off, c', hv, hlt, hc⟩
 ·exact .inl (List.eq_nil_of_length_eq_zero (by omega))
 ·injection hv with h1 h2 h3
  subst h1
  refine .inr ⟨g, off, rfl, hlt, fun i hi j v hv => ?_⟩
  match j, hv with
  | 0, hv =>
    simp [encS] at hv
    subst hv
    have := hc i (.string ⟨(l[i]).toArray⟩) (by simp [strs, hi])
    simpa using this
def RetStrs (w : World) (l : List (List UInt8)) (e : Ending) (w' : World) : Prop :=
 ∃ A c, e = .returned (.slice A l.length c) ∧ Sl w' w'.heap.size 1 encS A l ∧ Below w.heap.size w w'
theorem Src.lit (w : World) (size e : Nat) (cs : Array Value) (m : Nat) (h : cs.size = m * size) : Src (w.alloc (.cells cs e)) size (some ⟨w.heap.size, 0, none⟩) m cs.toList :=
 ⟨by simpa using h, fun _ => ⟨_, rfl, fun j u hu => by
  rw [Addr.add_lit, Nat.zero_add]
  simp only [World.cell?, heap_alloc_new]
  have hj := (List.getElem?_eq_some_iff.1 hu).1
  have : cs[j]? = some u := by simpa using hu
  simpa using this⟩⟩
theorem World.grownBy_none_any {w w' : World} {row : Option Nat} (h : w.grownBy w' none) : w.grownBy w' row := ⟨h.os, h.tape, h.output, h.size, fun k hk _ => h.block k hk (by simp)⟩
section
variable {P : Program} (w : World)
theorem run_app (base t ty e size bytes : Nat) (hT : ElT P t e size bytes) (v : Value) (n : Nat) (xs : List Value) (hacc : Acc w base e size v n xs)
  (A : Option Addr) (m c : Nat) (news : List Value) (hsrc : Src w size A m news) (h1 : ∀ u ∈ news, u.oneCell' = true)
  (h63 : n + m ≤ maxLen) (hbytes : (n + m) * bytes ≤ 140737488355328) (hbase : base ≤ w.heap.size) :
  ∃ v' w', (Builtin.append_ #[t, t] ty #[v, .slice A m c]).run P w = .ok v' w' ∧ Acc w' base e size v' (n + m) (xs ++ news) ∧ w.grownBy w' v.ownBlock ∧ Below base w w' ∧
    (v' = .slice none 0 0 ↔ v = .slice none 0 0 ∧ m = 0) ∧ (v'.ownBlock = v.ownBlock ∨ ∃ g, v'.ownBlock = some g ∧ w.heap.size ≤ g) := by
 obtain ⟨ht, hsz, i, z, hi, hz, hs, hby, hzs⟩ := hT
 rcases Nat.eq_zero_or_pos m with rfl | hm
 ·have hn : news = [] := List.eq_nil_of_length_eq_zero (by simpa using hsrc.1)
  subst hn
  have hrun : (Builtin.append_ #[t, t] ty #[v, .slice A 0 c]).run P w = .ok v w := by
   rcases hacc with hown | ⟨_, g, off, rfl, _, _⟩
   ·rcases hown.2 with ⟨rfl, rfl⟩ | ⟨g, cap, cur, rfl, _, _, hnc, _⟩
    ·rcases A with _ | ad <;> simp [Builtin.append_, run_underlying ht, sizeOf, typeInfo, hi, Builtin.lenOf, Builtin.firstCells, loadCells, loadCellsFrom]
    ·rcases A with _ | ad <;> simp [Builtin.append_, run_underlying ht, sizeOf, typeInfo, hi, Builtin.lenOf, Builtin.firstCells, loadCells, loadCellsFrom, hnc, storeCells]
   ·rcases A with _ | ad <;> simp [Builtin.append_, run_underlying ht, sizeOf, typeInfo, hi, Builtin.lenOf, Builtin.firstCells, loadCells, loadCellsFrom, storeCells]
  exact ⟨v, w, hrun, by simpa using hacc, World.grownBy.refl w _, Below.refl _ _, by simp, .inl rfl⟩
 ·obtain ⟨ad, rfl, hc⟩ := hsrc.2 hm
  rcases hacc with hown | ⟨hl, g, off, rfl, hlt, hcs⟩
  ·obtain ⟨v', w', hr, h2, h3, h4, h5⟩ := run_append_own_at (P := P) w base t ty e i z size bytes ht hi hz hs hby hzs hsz v n xs hown ad m c news hsrc.1 hc h1 h63 hbytes hbase
   refine ⟨v', w', hr, .inl h2, h3, (Below.refl _ _).grown h3 hbase (fun k hk => (hown.lt k hk).1), h4, ?_⟩
   rcases h5 with h5 | h5
   ·exact .inl h5
   ·exact .inr ⟨_, h5, Nat.le_refl _⟩
  ·obtain ⟨v', w', hr, r1, r2⟩ := run_append_arg_grows (P := P) w t ty e i z size bytes ht hi hz hs hby hzs hsz ⟨g, off, none⟩ n n xs hl (fun j u hj => by rw [Addr.add_lit]; exact hcs j u hj) ad m c news hsrc.1 hc (by omega) h63 hbytes
   refine ⟨v', w', hr, .inl ⟨r1.1, ?_⟩, World.grownBy_none_any r2, (Below.refl _ _).grown r2 hbase (by simp), ?_, ?_⟩
   ·rcases r1.2 with h | ⟨g', cap, cur, e1, e2, e3⟩
    ·exact .inl h
    ·exact .inr ⟨g', cap, cur, e1, Nat.le_trans hbase e2, e3⟩
   ·rcases r1.2 with ⟨_, h⟩ | ⟨g', cap, cur, rfl, _⟩
    ·omega
    ·simp
   ·rcases r1.2 with ⟨_, h⟩ | ⟨g', cap, cur, rfl, e2, _⟩
    ·omega
    ·exact .inr ⟨g', rfl, e2⟩
theorem wp_app {o : Oper} {a : Act} {K : Act → World → Prop} {Q : Exit → Act → World → Prop} (s x : Operand) (t : TypeId)
  (ho : o.op = .call { callee := .builtin .append, args := #[s, x], argTypes := #[t, t] })
  (base e size bytes : Nat) (hT : ElT P t e size bytes) (v : Value) (n : Nat) (xs : List Value) (hs : a.eval s = v) (hacc : Acc w base e size v n xs)
  (A : Option Addr) (m c : Nat) (news : List Value) (hx : a.eval x = .slice A m c) (hsrc : Src w size A m news) (h1 : ∀ u ∈ news, u.oneCell' = true)
  (h63 : n + m ≤ maxLen) (hbytes : (n + m) * bytes ≤ 140737488355328) (hbase : base ≤ w.heap.size)
  (h : ∀ v' w', Acc w' base e size v' (n + m) (xs ++ news) → w.grownBy w' v.ownBlock → Below base w w' → (v' = .slice none 0 0 ↔ v = .slice none 0 0 ∧ m = 0) →
   (v'.ownBlock = v.ownBlock ∨ ∃ g, v'.ownBlock = some g ∧ w.heap.size ≤ g) → K (a.put o.dst v') w') : o.wp P a w K Q := by
 obtain ⟨v', w', hrun, h2, h3, h4, h5, h6⟩ := run_app (P := P) w base t o.type e size bytes hT v n xs hacc A m c news hsrc h1 h63 hbytes hbase
 unfold Oper.wp execOp
 simp only [ho, resolve, invoke, builtin, Sem.run_bind, Sem.run_pure, Result.andThen_ok, List.map_toArray, List.map_cons, List.map_nil, hs, hx, hrun]
 exact h v' w' h2 h3 h4 h5 h6
theorem wpList_app {ops : Array Oper} {rest : List Oper} {o : Oper} {a : Act} {Q : Exit → Act → World → Prop} (hgd : o.guard = none) (s x : Operand) (t : TypeId)
  (ho : o.op = .call { callee := .builtin .append, args := #[s, x], argTypes := #[t, t] })
  (base e size bytes : Nat) (hT : ElT P t e size bytes) (v : Value) (n : Nat) (xs : List Value) (hs : a.eval s = v) (hacc : Acc w base e size v n xs)
  (A : Option Addr) (m c : Nat) (news : List Value) (hx : a.eval x = .slice A m c) (hsrc : Src w size A m news) (h1 : ∀ u ∈ news, u.oneCell' = true)
  (h63 : n + m ≤ maxLen) (hbytes : (n + m) * bytes ≤ 140737488355328) (hbase : base ≤ w.heap.size)
  (h : ∀ v' w', Acc w' base e size v' (n + m) (xs ++ news) → w.grownBy w' v.ownBlock → Below base w w' → (v' = .slice none 0 0 ↔ v = .slice none 0 0 ∧ m = 0) →
   (v'.ownBlock = v.ownBlock ∨ ∃ g, v'.ownBlock = some g ∧ w.heap.size ≤ g) → wpList P ops Q rest (a.put o.dst v') w') : wpList P ops Q (o :: rest) a w :=
 wpList_plain hgd fun _ hK => wp_app w s x t ho base e size bytes hT v n xs hs hacc A m c news hx hsrc h1 h63 hbytes hbase fun v' w' h2 h3 h4 h5 h6 => hK _ _ (h v' w' h2 h3 h4 h5 h6)
theorem step_app {ops : Array Oper} {o : Oper} {a : Act} {K : Act → World → Prop} {Q : Exit → Act → World → Prop} {E : Prop} (hgd : o.guard = none) (s x : Operand) (t : TypeId)
  (ho : o.op = .call { callee := .builtin .append, args := #[s, x], argTypes := #[t, t] })
  (base e size bytes : Nat) (hT : ElT P t e size bytes) (v : Value) (n : Nat) (xs : List Value) (hs : a.eval s = v) (hacc : Acc w base e size v n xs)
  (A : Option Addr) (m c : Nat) (news : List Value) (hx : a.eval x = .slice A m c) (hsrc : Src w size A m news) (h1 : ∀ u ∈ news, u.oneCell' = true)
  (h63 : n + m ≤ maxLen) (hbytes : (n + m) * bytes ≤ 140737488355328) (hbase : base ≤ w.heap.size)
  (h : ∀ v' w', Acc w' base e size v' (n + m) (xs ++ news) → w.grownBy w' v.ownBlock → Below base w w' → (v' = .slice none 0 0 ↔ v = .slice none 0 0 ∧ m = 0) →
   (v'.ownBlock = v.ownBlock ∨ ∃ g, v'.ownBlock = some g ∧ w.heap.size ≤ g) → K (a.put o.dst v') w') :
  if Region.wanted o (yielded ops a.tmps) = true then Oper.wp P o a w K Q else E := by
 have hw : Region.wanted o (yielded ops a.tmps) = true := by simp [Region.wanted, hgd]
 rw [if_pos hw]
 exact wp_app w s x t ho base e size bytes hT v n xs hs hacc A m c news hx hsrc h1 h63 hbytes hbase h
end
end Go.Proofs.YthcgihgajdjfoaaGreatDoor
namespace Go.Proofs.YthcgihgajdjfoaaGreatDoor
open Go.RowKit
theorem fstep_val (m : Nat) (c : UInt8) (hm : m < 18446744073709551616) :
  IntKind.u64.wrap (bits BinOp.xor IntKind.u64 (m : Int) (IntKind.u64.wrap (c.toNat : Int)) * 1099511628211) = (fstep m c : Int) := by
 have hc : c.toNat < 256 := c.toNat_lt
 have e1 : IntKind.u64.wrap (c.toNat : Int) = (c.toNat : Int) := by simp [IntKind.wrap, IntKind.bits, IntKind.signed]; omega
 rw [e1, u64_xor_nat m c.toNat hm (by omega)]
 simp only [IntKind.wrap, IntKind.bits, IntKind.signed, fstep]
 simp
set_option maxHeartbeats 400000 in
theorem cont_any (n : Nat) (l : List UInt8) (w : World) (hs : l.length ≤ maxLen) (h1 : n < 18446744073709551616) :
  Calls Tryz.prog 102 #[.int .u64 n, .string ⟨l.toArray⟩] w fun e w' => e = .returned (.int .u64 (fnv n l)) ∧ w = w' := by
 unfold maxLen at hs
 go_enter Tryz.func102, Tryz.ntmps102
 go_wp2
 go_loop [0, 5] (fun u i => ∃ k m : Nat, k ≤ l.length ∧ m < 18446744073709551616 ∧ m = fnv n (l.take k) ∧ i = .int .i64 k ∧ u = .int .u64 m) (fun _ i => l.length - (intOf i).toNat)
 case atStart => exact ⟨0, n, Nat.zero_le _, h1, rfl, rfl, rfl⟩
 case round =>
  obtain ⟨k, m, hk, hm, hf, rfl, rfl⟩ := hrel
  have HF := Lib.hid hf; clear hf
  by_cases hlt : k < l.length
  ·go_wp2
   go_round
   case rel => exact ⟨k + 1, fstep m l[k], by omega, fstep_lt _ _, by rw [take_snoc l k hlt, fnv_snoc, ← HF.out], by go_num, by rw [fstep_val m _ hm]; rfl⟩
   case measure => simp [intOf]; omega
  ·go_wp2
   go_ret
   exact ⟨by show Ending.returned (.int .u64 m) = _; rw [HF.out, List.take_of_length_le (by omega)], rfl⟩
theorem refSum_any (l : List UInt8) (w : World) (hs : l.length ≤ maxLen) :
  Calls Tryz.prog 59 #[.string ⟨l.toArray⟩] w fun e w' => e = .returned (.int .u64 (fnv fstart l)) ∧ w = w' := by
 have hc := Lib.hid (cont_any fstart l w hs (by decide))
 go_enter Tryz.func59, Tryz.ntmps59
 go_wp2_with (go_at_call 102; refine hc.out.mono ?_; rintro e w' ⟨rfl, rfl⟩)
 go_ret
 exact ⟨rfl, rfl⟩
def fnvs (n : Nat) (l : List (List UInt8)) : Nat := l.foldl fnv n
theorem fnvs_snoc (n : Nat) (l : List (List UInt8)) (s : List UInt8) : fnvs n (l ++ [s]) = fnv (fnvs n l) s := by unfold fnvs; rw [List.foldl_append, List.foldl_cons, List.foldl_nil]
theorem take_snoc' {α : Type} (l : List α) (k : Nat) (h : k < l.length) : l.take (k + 1) = l.take k ++ [l[k]] := by
 rw [List.take_succ_eq_append_getElem h]
set_option maxHeartbeats 400000 in
theorem sum_any (n : Nat) (A : Option Addr) (c : Nat) (l : List (List UInt8)) (w : World) (hn : l.length ≤ maxLen) (h1 : n < 18446744073709551616) (hA : Sl w w.heap.size 1 encS A l) (hl : ∀ s ∈ l, s.length ≤ maxLen) :
  Calls Tryz.prog 63 #[.int .u64 n, .slice A l.length c] w fun e w' => e = .returned (.int .u64 (fnvs n l)) ∧ w = w' := by
 unfold maxLen at hn
 go_enter Tryz.func63, Tryz.ntmps63
 go_wp2
 go_loop [0, 10] (fun u i => ∃ k m : Nat, k ≤ l.length ∧ m < 18446744073709551616 ∧ m = fnvs n (l.take k) ∧ i = .int .i64 k ∧ u = .int .u64 m) (fun _ i => l.length - (intOf i).toNat)
 case atStart => exact ⟨0, n, Nat.zero_le _, h1, rfl, rfl, rfl⟩
 case round =>
  obtain ⟨k, m, hk, hm, hf, rfl, rfl⟩ := hrel
  have HF := Lib.hid hf; clear hf
  by_cases hlt : k < l.length
  ·obtain ⟨b, off, rfl, hb, hc⟩ := hA.str hlt
   have hsl := hl l[k] (List.getElem_mem hlt)
   obtain ⟨s, hs⟩ : ∃ s, s = l[k] := ⟨_, rfl⟩
   rw [← hs] at hc hsl
   have HS := Lib.hid hs; clear hs
   unfold maxLen at hsl
   go_wp2
   go_loop [0, 16] (fun u i => ∃ k2 m2 : Nat, k2 ≤ s.length ∧ m2 < 18446744073709551616 ∧ m2 = fnv m (s.take k2) ∧ i = .int .i64 k2 ∧ u = .int .u64 m2) (fun _ i => s.length - (intOf i).toNat)
   case atStart => exact ⟨0, m, Nat.zero_le _, hm, rfl, rfl, rfl⟩
   case round =>
    obtain ⟨k2, m2, hk2, hm2, hf2, rfl, rfl⟩ := hrel
    have HF2 := Lib.hid hf2; clear hf2
    by_cases hlt2 : k2 < s.length
    ·go_wp2
     go_round
     case rel => exact ⟨k2 + 1, fstep m2 s[k2], by omega, fstep_lt _ _, by rw [take_snoc s k2 hlt2, fnv_snoc, ← HF2.out], by go_num, by rw [fstep_val m2 _ hm2]; rfl⟩
     case measure => simp [intOf]; omega
    ·go_wp2
     go_round
     case rel => exact ⟨k + 1, m2, by omega, hm2, by rw [take_snoc' l k hlt, fnvs_snoc, ← HF.out, HF2.out, List.take_of_length_le (by omega), HS.out], by go_num, rfl⟩
     case measure => simp [intOf]; omega
  ·go_wp2
   go_ret
   exact ⟨by show Ending.returned (.int .u64 m) = _; rw [HF.out, List.take_of_length_le (by omega)], rfl⟩
end Go.Proofs.YthcgihgajdjfoaaGreatDoor
namespace Go.Proofs.YthcgihgajdjfoaaGreatDoor
open Go.RowKit
set_option maxHeartbeats 400000 in
theorem Sum_any (l : List UInt8) (w : World) (hs : l.length ≤ maxLen) :
  Calls Tryz.prog 62 #[.string ⟨l.toArray⟩] w fun e w' => e = .returned (.int .u64 (fnv fstart l)) ∧ Below w.heap.size w w' := by
 have hc := Lib.hid (sum_any fstart (some ⟨w.heap.size, 0, none⟩) 1 [l] (w.alloc (.cells #[.string ⟨l.toArray⟩] 9)) (by simp [maxLen]) (by decide)
  (.inr ⟨w.heap.size, 0, rfl, by simp, fun i hi j v hv => by
   obtain rfl : i = 0 := by simpa using hi
   match j, hv with
   | 0, hv => simp [encS] at hv; subst hv; simp⟩) (by simpa using hs))
 go_enter Tryz.func62, Tryz.ntmps62
 go_wp2_with (go_at_call 63; refine hc.out.mono ?_; rintro e w' ⟨rfl, rfl⟩)
 go_ret
 exact ⟨rfl, (Below.refl _ _).alloc (Nat.le_refl _) _⟩
theorem hexd_ext (m : Nat) (l : List UInt8) : ({ data := #[48, 49, 50, 51, 52, 53, 54, 55, 56, 57, 97, 98, 99, 100, 101, 102] } : ByteArray).extract (m % 16) (m % 16 + 1) ++ ⟨l.toArray⟩ = ⟨(hexd (m % 16) :: l).toArray⟩ := by
 have h : m % 16 < 16 := Nat.mod_lt _ (by decide)
 generalize m % 16 = d at h
 have e : ({ data := #[48, 49, 50, 51, 52, 53, 54, 55, 56, 57, 97, 98, 99, 100, 101, 102] } : ByteArray) = ⟨([48, 49, 50, 51, 52, 53, 54, 55, 56, 57, 97, 98, 99, 100, 101, 102] : List UInt8).toArray⟩ := rfl
 rw [e, ByteArray.extract_mk, ByteArray.mk_append_mk]
 congr 2
 match d, h with
 | 0, _ | 1, _ | 2, _ | 3, _ | 4, _ | 5, _ | 6, _ | 7, _ | 8, _ | 9, _ | 10, _ | 11, _ | 12, _ | 13, _ | 14, _ | 15, _ => rfl
 | d + 16, h => omega
theorem hexs_length (k n : Nat) : (hexs k n).length = k := by
 induction k generalizing n with
 | zero => rfl
 | succ k ih => simp [hexs, ih]
theorem hexs_cons (k n : Nat) : hexs (k + 1) n = hexd (n / 16 ^ k % 16) :: hexs k n := by
 induction k generalizing n with
 | zero => simp [hexs]
 | succ k ih =>
   rw [hexs, ih, hexs, List.cons_append]
   congr 2
   rw [Nat.div_div_eq_div_mul, Nat.pow_succ, Nat.mul_comm]
set_option maxHeartbeats 400000 in
theorem refText_any (n : Nat) (w : World) (hn : n < 18446744073709551616) :
  Calls Tryz.prog 58 #[.int .u64 n] w fun e w' => e = .returned (.string ⟨(dtext n).toArray⟩) ∧ w = w' := by
 go_enter Tryz.func58, Tryz.ntmps58
 go_wp2
 go_loop [0, 4, 5] (fun u s i => ∃ k m : Nat, k ≤ 16 ∧ m < 18446744073709551616 ∧ m = n / 16 ^ k ∧ i = .int .i64 k ∧ u = .int .u64 m ∧ s = .string ⟨(hexs k n).toArray⟩) (fun _ _ i => 16 - (intOf i).toNat)
 case atStart => exact ⟨0, n, Nat.zero_le _, hn, by simp, rfl, rfl, rfl⟩
 case round =>
  obtain ⟨k, m, hk, hm, hf, rfl, rfl, rfl⟩ := hrel
  have HF := Lib.hid hf; clear hf
  have hl : (hexs k n).length ≤ 16 := by rw [hexs_length]; exact hk
  by_cases hlt : (k : Int) < 16
  ·have hmin : min (m % 16 + 1) 16 - m % 16 ≤ 1 := by omega
   go_wp2
   go_round
   case rel => exact ⟨k + 1, m / 16, by omega, by omega, by rw [HF.out, Nat.div_div_eq_div_mul, Nat.pow_succ], by go_num, by go_num, by rw [hexd_ext, hexs_cons, ← HF.out]⟩
   case measure => simp [intOf]; omega
  ·obtain rfl : k = 16 := by omega
   go_wp2
   go_ret
   exact ⟨by rw [show ({ data := #[104, 58] } : ByteArray) = ⟨([104, 58] : List UInt8).toArray⟩ from rfl, ByteArray.mk_append_mk]; rfl, rfl⟩
theorem elU8 : ElT Tryz.prog 65 5 1 1 := ElT.mk_ (z := .int .u8 0) Tryz.underlying65 (by kernel_rfl) rfl (by decide)
theorem hex_index (n k : Nat) (hk : k < 16) : (n / 2 ^ (60 - 4 * k)) % 16 = n / 16 ^ (15 - k) % 16 := by
 congr 2
 rw [show (16 : Nat) = 2 ^ 4 from rfl, ← Nat.pow_mul]
 congr 1
 omega
theorem hexs_at (K n j : Nat) (hj : j < K) : (hexs K n)[j]? = some (hexd (n / 16 ^ (K - 1 - j) % 16)) := by
 induction K generalizing n with
 | zero => omega
 | succ K ih =>
   simp only [hexs]
   by_cases h : j < K
   ·rw [List.getElem?_append_left (by rw [hexs_length]; exact h), ih _ h, Nat.div_div_eq_div_mul]
    congr 3
    rw [Nat.mul_comm, ← Nat.pow_succ]
    congr 2
    omega
   ·obtain rfl : j = K := by omega
    rw [List.getElem?_append_right (by rw [hexs_length]; omega), hexs_length]
    simp
theorem hexs_take (n k : Nat) (hk : k < 16) : (hexs 16 n).take (k + 1) = (hexs 16 n).take k ++ [hexd (n / 16 ^ (15 - k) % 16)] := by
 rw [List.take_add_one, hexs_at 16 n k hk]
 rfl
theorem hexd_get (d : Nat) (h : d < 16) (h' : d < ({ data := #[48, 49, 50, 51, 52, 53, 54, 55, 56, 57, 97, 98, 99, 100, 101, 102] } : ByteArray).size) :
  ({ data := #[48, 49, 50, 51, 52, 53, 54, 55, 56, 57, 97, 98, 99, 100, 101, 102] } : ByteArray)[d] = hexd d := by
 match d, h with
 | 0, _ | 1, _ | 2, _ | 3, _ | 4, _ | 5, _ | 6, _ | 7, _ | 8, _ | 9, _ | 10, _ | 11, _ | 12, _ | 13, _ | 14, _ | 15, _ => rfl
 | d + 16, h => omega
theorem and15 (n k : Nat) (hn : n < 18446744073709551616) (hk : k < 16) : bits BinOp.and IntKind.u64 ((n : Int) / 2 ^ (60 - 4 * k)) 15 = ((n / 16 ^ (15 - k) % 16 : Nat) : Int) := by
 have e : ((n : Int) / 2 ^ (60 - 4 * k)) = ((n / 2 ^ (60 - 4 * k) : Nat) : Int) := by simp
 rw [e, show (15 : Int) = ((15 : Nat) : Int) from rfl, u64_and_nat _ _ (Nat.lt_of_le_of_lt (Nat.div_le_self _ _) hn) (by decide), nat_mask4, hex_index n k hk]
set_option maxRecDepth 100000 in
set_option maxHeartbeats 400000 in
theorem Text_any (n : Nat) (w : World) (hn : n < 18446744073709551616) :
  Calls Tryz.prog 65 #[.int .u64 n] w fun e w' => e = .returned (.string ⟨(dtext n).toArray⟩) ∧ Below w.heap.size w w' := by
 have kc := fun (w : World) (C : Array Value) (n c : Nat) => Lib.run_convert_bytes_const (P := Tryz.prog) w 65 5 C n c Tryz.underlying65 Tryz.underlying5
 go_enter Tryz.func65, Tryz.ntmps65
 go_wp2
 go_loopw [3, 4] (fun v i wr => ∃ k : Nat, k ≤ 16 ∧ i = .int .i64 (60 - 4 * (k : Int)) ∧ Acc wr w.heap.size 5 1 v (2 + k) (u8s ([104, 58] ++ (hexs 16 n).take k)) ∧ Below w.heap.size w wr) (fun _ i _ => (intOf i + 5).toNat)
 case atStart => exact ⟨0, by omega, rfl, Acc.marked w _ _ _ 1 2 _ rfl, (Below.refl _ _).alloc (Nat.le_refl _) _⟩
 case round =>
  obtain ⟨k, hk, rfl, hacc, hb⟩ := hrel
  obtain ⟨A, c, rfl⟩ := hacc.shape
  have hbz := hb.size
  by_cases hlt : (k : Int) < 16
  ·have h1 : (0 : Int) ≤ 60 - 4 * (k : Int) := by omega
   have ha := and15 n k hn (by omega)
   have ht := Lib.hid (hexs_take n k (by omega))
   have hd : n / 16 ^ (15 - k) % 16 < 16 := Nat.mod_lt _ (by decide)
   generalize n / 16 ^ (15 - k) % 16 = d at ha ht hd
   go_wp2_with (at_builtin; refine wpList_app _ rfl (.tmp 11) (.tmp 17) 65 rfl w.heap.size 5 1 1 elU8 _ _ _ rfl (hacc.alloc _) _ 1 _ _ rfl (Src.lit _ 1 _ _ 1 rfl) (by simp [Value.oneCell']) (by simp only [maxLen]; omega) (by omega) (by simp; omega) ?_; intro v' w1 hacc' _ hb' _ _)
   go_roundw
   case rel =>
    refine ⟨k + 1, by omega, by go_num, ?_, (hb.alloc hbz _).trans hb'⟩
    have e : u8s ([104, 58] ++ (List.take k (hexs 16 n) ++ [hexd d])) = u8s ([104, 58] ++ List.take k (hexs 16 n)) ++ [.int .u8 (hexd d).toNat] := by simp [u8s]
    rw [ht.out, e]
    rw [← hexd_get d hd hd]
    exact hacc'
   case measure => simp [intOf]; omega
  ·have h1 : ¬ (0 : Int) ≤ 60 - 4 * (k : Int) := by omega
   have hcv := hacc.str 65 9 Tryz.underlying65 Tryz.underlying5 Tryz.underlying9
   go_wp2
   go_ret
   refine ⟨?_, hb⟩
   obtain rfl : k = 16 := by omega
   rw [List.take_of_length_le (by rw [hexs_length]; omega)]
   rfl
end Go.Proofs.YthcgihgajdjfoaaGreatDoor
