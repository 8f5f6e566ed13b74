/- Several texts in one: PA PB Mem WB Mem2 Mem3 Reg PC PD PE PF OM OK. -/
import Derived.Below
import GoSem.Step
import Derived.Laws.OwnMore
import Derived.Deep.AppendLies
import Derived.Deep.Draws
import Derived.OwnWalk
import Derived.Maps.AppendAt
import Derived.ArgAppend
import Derived.RegionTactic
import Derived.Laws.IdiomStrings
import Derived.Laws.BytesString
import Derived.Test.YtfiilbdkhelhgaaDoorProg
import Derived.WalkKit
import Derived.Lib.Hide
import Derived.WalkSpells
import Derived.WalkLawsBesides
import Derived.Lib.SlBytesConst
import Derived.Orders
import Derived.Lib.SplitLaws
import Derived.Lib.CountLaws
import Derived.Lib.IndexBytes
import Derived.Lib.Split
import Derived.Laws.Strings2
import Derived.Lib.ItoaNum
import Derived.Maps.OwnSet
import Derived.Maps.RangeWalk
import Derived.StringKeys
import Derived.DeepKeys5
namespace Go.Proofs.YtfiilbdkhelhgaaDoor
open Go.RowKit

/-- one step of the sum of bytes -/
def fstep (n : Nat) (c : UInt8) : Nat := ((n ^^^ c.toNat) * 1099511628211) % 18446744073709551616
/-- the sum of bytes, continued -/
def fnv (n : Nat) (l : List UInt8) : Nat := l.foldl fstep n
def fstart : Nat := 14695981039346656037
theorem fstep_lt (n : Nat) (c : UInt8) : fstep n c < 18446744073709551616 := by unfold fstep; omega
theorem fnv_lt (n : Nat) (l : List UInt8) (h : n < 18446744073709551616) : fnv n l < 18446744073709551616 := by
  unfold fnv
  induction l generalizing n with
  | nil => simpa only [List.foldl_nil] using h
  | cons c l ih => rw [List.foldl_cons]; exact ih _ (fstep_lt n c)
theorem fnv_snoc (n : Nat) (l : List UInt8) (c : UInt8) : fnv n (l ++ [c]) = fstep (fnv n l) c := by unfold fnv; rw [List.foldl_append, List.foldl_cons, List.foldl_nil]
theorem fnv_append (n : Nat) (l m : List UInt8) : fnv n (l ++ m) = fnv (fnv n l) m := by unfold fnv; rw [List.foldl_append]
theorem fnv_nil (n : Nat) : fnv n [] = n := rfl
theorem take_snoc (l : List UInt8) (k : Nat) (h : k < l.length) : l.take (k + 1) = l.take k ++ [l[k]] := by
  rw [List.take_succ_eq_append_getElem h]

/-- a hexadecimal digit -/
def hexd (n : Nat) : UInt8 := [48, 49, 50, 51, 52, 53, 54, 55, 56, 57, 97, 98, 99, 100, 101, 102].getD n 0
/-- k hexadecimal digits of n, the lowest k -/
def hexs : Nat → Nat → List UInt8
  | 0, _ => []
  | k + 1, n => hexs k (n / 16) ++ [hexd (n % 16)]
/-- the text of a sum -/
def dtext (n : Nat) : List UInt8 := [104, 58] ++ hexs 16 n
end Go.Proofs.YtfiilbdkhelhgaaDoor

namespace Go.Proofs.YtfiilbdkhelhgaaDoor
open Go (Op.bytesLess)

theorem bl_irrefl : ∀ a : List UInt8, Op.bytesLess a a = false
  | [] => rfl
  | c :: a => by simp [Op.bytesLess, bl_irrefl a]
theorem bl_trans : ∀ a b c : List UInt8, Op.bytesLess a b = true → Op.bytesLess b c = true → Op.bytesLess a c = true
  | _, [], _, h, _ => by simp [Op.bytesLess] at h
  | _, _ :: _, [], _, h => by simp [Op.bytesLess] at h
  | [], _ :: _, _ :: _, _, _ => rfl
  | x :: a, y :: b, z :: c, h1, h2 => by
    simp only [Op.bytesLess, Bool.or_eq_true, decide_eq_true_eq, Bool.and_eq_true, beq_iff_eq] at *
    rcases h1 with h1 | ⟨rfl, h1⟩
    · rcases h2 with h2 | ⟨rfl, h2⟩
      · exact .inl (UInt8.lt_trans h1 h2)
      · exact .inl h1
    · rcases h2 with h2 | ⟨rfl, h2⟩
      · exact .inl h2
      · exact .inr ⟨rfl, bl_trans a b c h1 h2⟩
theorem bl_total : ∀ a b : List UInt8, Op.bytesLess a b = false → Op.bytesLess b a = false → a = b
  | [], [], _, _ => rfl
  | [], _ :: _, h, _ => by simp [Op.bytesLess] at h
  | _ :: _, [], _, h => by simp [Op.bytesLess] at h
  | x :: a, y :: b, h1, h2 => by
    simp only [Op.bytesLess, Bool.or_eq_false_iff, decide_eq_false_iff_not, Bool.and_eq_false_iff, beq_eq_false_iff_ne] at *
    have hxy : x = y := by
      rcases h1 with ⟨h1, _⟩
      rcases h2 with ⟨h2, _⟩
      exact UInt8.le_antisymm (UInt8.not_lt.1 h2) (UInt8.not_lt.1 h1)
    subst hxy
    rcases h1.2 with h | h
    · exact absurd rfl h
    · rcases h2.2 with h' | h'
      · exact absurd rfl h'
      · rw [bl_total a b h h']
theorem bl_asymm (a b : List UInt8) (h : Op.bytesLess a b = true) : Op.bytesLess b a = false := by
  cases hb : Op.bytesLess b a
  · rfl
  · have := bl_trans a b a h hb
    rw [bl_irrefl] at this
    cases this

/-- strings compared -/
def scmp (a b : List UInt8) : Int := if Op.bytesLess a b = true then -1 else if a = b then 0 else 1
/-- versions compared -/
def vcmp (x y z x' y' z' : Int) : Int := if x < x' then -1 else if x' < x then 1 else if y < y' then -1 else if y' < y then 1 else if z < z' then -1 else if z' < z then 1 else 0

/-- a module: its path and the three numbers of its version -/
abbrev Mod := List UInt8 × Int × Int × Int
/-- modules compared -/
def mcmp (m n : Mod) : Int := if Op.bytesLess m.1 n.1 = true then -1 else if m.1 = n.1 then vcmp m.2.1 m.2.2.1 m.2.2.2 n.2.1 n.2.2.1 n.2.2.2 else 1
def vok (x y z : Int) : Bool := decide (0 ≤ x ∧ x ≤ 9999) && decide (0 ≤ y ∧ y ≤ 9999) && decide (0 ≤ z ∧ z ≤ 9999)
theorem mcmp_refl (m : Mod) : mcmp m m = 0 := by simp [mcmp, bl_irrefl, vcmp]
theorem mcmp_eq (m n : Mod) : mcmp m n = 0 ↔ m = n := by
  constructor
  · intro h
    unfold mcmp at h
    split at h
    · omega
    · split at h
      · rename_i h2
        unfold vcmp at h
        obtain ⟨p, x, y, z⟩ := m
        obtain ⟨p', x', y', z'⟩ := n
        simp only at *
        subst h2
        have : x = x' ∧ y = y' ∧ z = z' := by
          (try (split at h <;> try omega))
          (try (split at h <;> try omega))
          (try (split at h <;> try omega))
          (try (split at h <;> try omega))
          (try (split at h <;> try omega))
          (try (split at h <;> try omega))
        obtain ⟨rfl, rfl, rfl⟩ := this
        rfl
      · omega
  · rintro rfl; exact mcmp_refl m
theorem vcmp_range (x y z x' y' z' : Int) : vcmp x y z x' y' z' = -1 ∨ vcmp x y z x' y' z' = 0 ∨ vcmp x y z x' y' z' = 1 := by
  unfold vcmp; repeat' split
  all_goals simp
theorem vcmp_neg (x y z x' y' z' : Int) : vcmp x y z x' y' z' < 0 ↔ x < x' ∨ x = x' ∧ (y < y' ∨ y = y' ∧ z < z') := by
  unfold vcmp; repeat' split
  all_goals omega
end Go.Proofs.YtfiilbdkhelhgaaDoor

namespace Go.Proofs.YtfiilbdkhelhgaaDoor
open Go.RowKit

/-- below B nothing has turned, and no draw has been taken back -/
structure BelowD (B : Nat) (w w' : World) : Prop extends Below B w w' where
  drawn : w.drawn ≤ w'.drawn
section
variable {B B' : Nat} {a w w' : World}
theorem BelowD.refl (B : Nat) (w : World) : BelowD B w w := ⟨Below.refl B w, Nat.le_refl _⟩
theorem BelowD.trans (h : BelowD B a w) (k : BelowD B w w') : BelowD B a w' := ⟨h.toBelow.trans k.toBelow, Nat.le_trans h.drawn k.drawn⟩
theorem BelowD.mono (h : BelowD B w w') (hB : B' ≤ B) : BelowD B' w w' := ⟨h.toBelow.mono hB, h.drawn⟩
theorem BelowD.drew (h : BelowD B a w) : BelowD B a w.drew := ⟨h.toBelow.drew, Nat.le_succ_of_le h.drawn⟩
theorem BelowD.drewN (h : BelowD B a w) (n : Nat) : BelowD B a (w.drewN n) := ⟨⟨h.os, h.tape, h.output, h.size, h.block⟩, Nat.le_add_right_of_le h.drawn⟩
theorem BelowD.alloc (h : BelowD B a w) (hB : B ≤ w.heap.size) (o : Obj) : BelowD B a (w.alloc o) := ⟨h.toBelow.alloc hB o, h.drawn⟩
theorem BelowD.setCell (h : BelowD B a w) {p : Addr} (hp : B ≤ p.block) (u : Value) : BelowD B a (w.setCell p u) := ⟨h.toBelow.setCell hp u, h.drawn⟩
end

/-- The slice with address A reads, below block B, as the list l, each element the k cells that enc gives. -/
def Sl {α : Type} (w : World) (B k : Nat) (enc : α → List Value) (A : Option Addr) (l : List α) : Prop :=
  l = [] ∨ ∃ b off, A = some ⟨b, off, none⟩ ∧ b < B ∧ ∀ (i : Nat) (h : i < l.length) (j : Nat) (v : Value), (enc l[i])[j]? = some v → w.cell? ⟨b, off + i * k + j, none⟩ = some v

section
variable {α : Type} {w w' : World} {B B' k : Nat} {enc : α → List Value} {A : Option Addr} {l : List α}
theorem Sl.nil_ : Sl w B k enc A ([] : List α) := .inl rfl
theorem Sl.keep (h : Sl w B k enc A l) (hk : ∀ p : Addr, p.block < B → w'.cell? p = w.cell? p) : Sl w' B k enc A l := by
  rcases h with h | ⟨b, off, e, hb, hc⟩
  · exact .inl h
  · exact .inr ⟨b, off, e, hb, fun i hi j v hv => (hk _ hb).trans (hc i hi j v hv)⟩
theorem Sl.more (h : Sl w B k enc A l) (hB : B ≤ B') : Sl w B' k enc A l := by
  rcases h with h | ⟨b, off, e, hb, hc⟩
  · exact .inl h
  · exact .inr ⟨b, off, e, Nat.lt_of_lt_of_le hb hB, hc⟩
theorem Sl.below (h : Sl w B k enc A l) (hb : Below B w w') : Sl w' B k enc A l := h.keep fun _ hp => hb.cell hp
theorem Sl.at_ (h : Sl w B k enc A l) {i : Nat} (hi : i < l.length) : ∃ b off, A = some ⟨b, off, none⟩ ∧ b < B ∧ ∀ (j : Nat) (v : Value), (enc l[i])[j]? = some v → w.cell? ⟨b, off + i * k + j, none⟩ = some v := by
  rcases h with h | ⟨b, off, e, hb, hc⟩
  · subst h; simp at hi
  · exact ⟨b, off, e, hb, hc i hi⟩
end

theorem below_cell {w w' : World} {p : Addr} {v : Value} (hb : Below w.heap.size w w') (h : w.cell? p = some v) (hp : p.block < w.heap.size) : w'.cell? p = some v := (hb.cell hp).trans h
theorem lt_of_cell {w : World} {p : Addr} {v : Value} (h : w.cell? p = some v) : p.block < w.heap.size := by
  rcases Nat.lt_or_ge p.block w.heap.size with hlt | hge
  · exact hlt
  · simp [World.cell?, Array.getElem?_eq_none hge] at h
/-- a cell that is there is kept -/
theorem cell_keep {w w' : World} {p : Addr} {v : Value} (hb : Below w.heap.size w w') (h : w.cell? p = some v) : w'.cell? p = some v := (hb.cell (lt_of_cell h)).trans h
theorem cell_keep_alloc {w : World} {p : Addr} {v : Value} (o : Obj) (h : w.cell? p = some v) : (w.alloc o).cell? p = some v := cell_keep ((Below.refl _ _).alloc (Nat.le_refl _) _) h
theorem ret_int {k : IntKind} {a b : Int} (h : a = b) : Ending.returned (.int k a) = .returned (.int k b) := by rw [h]
theorem ret_bool {a b : Bool} (h : a = b) : Ending.returned (.bool a) = .returned (.bool b) := by rw [h]
theorem ret_str {a b : List UInt8} (h : a = b) : Ending.returned (.string ⟨a.toArray⟩) = .returned (.string ⟨b.toArray⟩) := by rw [h]

/-- a string's cell -/
def encS (s : List UInt8) : List Value := [.string ⟨s.toArray⟩]
theorem Sl.str {w : World} {B : Nat} {A : Option Addr} {l : List (List UInt8)} (h : Sl w B 1 encS A l) {i : Nat} (hi : i < l.length) :
    ∃ b off, A = some ⟨b, off, none⟩ ∧ b < B ∧ w.cell? ⟨b, off + i, none⟩ = some (.string ⟨(l[i]).toArray⟩) := by
  obtain ⟨b, off, e, hb, hc⟩ := h.at_ hi
  exact ⟨b, off, e, hb, by simpa using hc 0 _ rfl⟩

/-- a slice type t of elements e: their cells and bytes -/
def ElT (P : Program) (t e size bytes : Nat) : Prop :=
  P.underlying t = some (.slice e) ∧ 0 < size ∧ ∃ i z, P.info? e = some i ∧ i.zero = some z ∧ i.size = size ∧ i.bytes = bytes ∧ z.cells.size = size
theorem ElT.mk_ {P : Program} {t e size bytes : Nat} {z : Value} (h1 : P.underlying t = some (.slice e)) (h : (P.info? e).map (fun i => (i.zero, i.size, i.bytes)) = some (some z, size, bytes))
    (hz : z.cells.size = size) (h0 : 0 < size) : ElT P t e size bytes := by
  obtain ⟨i, a, b, c, d⟩ := info_parts h
  exact ⟨h1, h0, i, z, a, b, c, d, hz⟩

/-- A value that append takes and gives: the call's own row, or a full one that can be read. -/
def Acc (w : World) (base e size : Nat) (v : Value) (n : Nat) (xs : List Value) : Prop :=
  w.ownsRow base e size v n xs ∨ (xs.length = n * size ∧ ∃ g off, v = .slice (some ⟨g, off, none⟩) n n ∧ g < w.heap.size ∧ ∀ j u, xs[j]? = some u → w.cell? ⟨g, off + j, none⟩ = some u)
/-- What is appended: m elements at A. -/
def Src (w : World) (size : Nat) (A : Option Addr) (m : Nat) (news : List Value) : Prop :=
  news.length = m * size ∧ (0 < m → ∃ ad, A = some ad ∧ ∀ j u, news[j]? = some u → w.cell? (ad.add j) = some u)

theorem Acc.length {w : World} {base e size n : Nat} {v : Value} {xs : List Value} (h : Acc w base e size v n xs) : xs.length = n * size := by
  rcases h with h | h
  · exact h.1
  · exact h.1
theorem Acc.nil_ (w : World) (base e size : Nat) : Acc w base e size (.slice none 0 0) 0 [] := .inl (World.ownsRow_nil _ _ _ _)
theorem Acc.kept {w w' : World} {base e size n : Nat} {v : Value} {xs : List Value} {row : Option Nat} (h : Acc w base e size v n xs) (hg : w.grownBy w' row) (hne : v.ownBlock = none ∨ v.ownBlock ≠ row) : Acc w' base e size v n xs := by
  rcases h with h | ⟨hl, g, off, rfl, hlt, hc⟩
  · exact .inl (h.kept hg hne)
  · refine .inr ⟨hl, g, off, rfl, Nat.lt_of_lt_of_le hlt hg.size, fun j u hu => hg.cell (hc j u hu) ?_⟩
    rcases hne with hne | hne
    · simp [Value.ownBlock] at hne
    · simpa [Value.ownBlock] using hne
theorem Acc.below {w w' : World} {base e size n : Nat} {v : Value} {xs : List Value} (h : Acc w base e size v n xs) (hb : Below w.heap.size w w') : Acc w' base e size v n xs :=
  h.kept (row := none) ⟨hb.os, hb.tape, hb.output, hb.size, fun k hk _ => hb.block k hk⟩ (by rcases hv : v.ownBlock with _ | _ <;> simp)
theorem Acc.alloc {w : World} {base e size n : Nat} {v : Value} {xs : List Value} (h : Acc w base e size v n xs) (o : Obj) : Acc (w.alloc o) base e size v n xs :=
  h.below ((Below.refl _ _).alloc (Nat.le_refl _) _)
theorem Acc.drewN {w : World} {base e size n : Nat} {v : Value} {xs : List Value} (h : Acc w base e size v n xs) (k : Nat) : Acc (w.drewN k) base e size v n xs := h
theorem Acc.shape {w : World} {base e size n : Nat} {v : Value} {xs : List Value} (h : Acc w base e size v n xs) : ∃ A c, v = .slice A n c := by
  rcases h with h | ⟨_, g, off, rfl, _⟩
  · rcases h.2 with ⟨rfl, rfl⟩ | ⟨g, cap, cur, rfl, _⟩
    · exact ⟨_, _, rfl⟩
    · exact ⟨_, _, rfl⟩
  · exact ⟨_, _, rfl⟩
/-- its cells -/
theorem Acc.cells {w : World} {base e size n : Nat} {v : Value} {xs : List Value} (h : Acc w base e size v n xs) :
    n = 0 ∨ ∃ g off c, v = .slice (some ⟨g, off, none⟩) n c ∧ g < w.heap.size ∧ ∀ j u, xs[j]? = some u → w.cell? ⟨g, off + j, none⟩ = some u := by
  rcases h with h | ⟨_, g, off, rfl, hlt, hc⟩
  · have hk := h
    rcases h.2 with ⟨rfl, rfl⟩ | ⟨g, cap, cur, rfl, _, hh, _⟩
    · exact .inl rfl
    · refine .inr ⟨g, 0, cap, rfl, ?_, fun j u hu => ?_⟩
      · rcases Nat.lt_or_ge g w.heap.size with hlt | hge
        · exact hlt
        · rw [Array.getElem?_eq_none hge] at hh; cases hh
      · have hj : j < n * size := by rw [← hk.1]; exact (List.getElem?_eq_some_iff.1 hu).1
        rw [Nat.zero_add, hk.cellAt j hj]
        exact hu
  · exact .inr ⟨g, off, n, rfl, hlt, hc⟩

theorem Acc.marked (w : World) (cs : Array Value) (base e size n : Nat) (f : Nat × Nat) (h : cs.size = n * size) : Acc (w.alloc (.cells cs e f)) base e size (.slice (some ⟨w.heap.size, 0, none⟩) n n) n cs.toList :=
  .inr ⟨by simpa using h, w.heap.size, 0, rfl, by simp, fun j u hu => by
    have : cs[j]? = some u := by simpa using hu
    rw [Nat.zero_add, World.cell?_alloc_mark, this]⟩
/-- bytes as cells -/
def u8s (l : List UInt8) : List Value := l.map fun c => .int .u8 c.toNat
/-- '[]byte' turned into a string -/
theorem Acc.str {P : Program} {w : World} {base e n c : Nat} {A : Option Addr} {l : List UInt8} (src dst : TypeId) (h : Acc w base e 1 (.slice A n c) n (u8s l)) (hs : P.underlying src = some (.slice e)) (he : P.underlying e = some (.int .u8)) (hd : P.underlying dst = some .string) :
    (convert src dst (.slice A n c)).run P w = .ok (.string ⟨l.toArray⟩) w := by
  have hl : l.length = n := by simpa [u8s] using h.length
  rcases h.cells with rfl | ⟨g, off, c', hv, _, hc⟩
  · obtain rfl : l = [] := List.eq_nil_of_length_eq_zero hl
    rw [run_convert_bytes_string w src dst e A 0 c hs he hd]
    rcases A with _ | ad
    · simp [Conv.bytesToString]
      rfl
    · rw [run_bytesToString w ad 0 c [] (by simp [loadCells, loadCellsFrom])]
      rfl
  · injection hv with h1 h2 h3
    subst h1 h3
    subst hl
    exact run_convert_bytes_back w src dst e ⟨g, off, none⟩ c l hs he hd (fun j hj => by
      rw [Addr.add_lit]
      exact hc j _ (by simp [u8s, hj]))

/-- strings as cells -/
def strs (l : List (List UInt8)) : List Value := l.map fun s => .string ⟨s.toArray⟩
theorem strs_snoc (l : List (List UInt8)) (s : List UInt8) : strs (l ++ [s]) = strs l ++ [.string ⟨s.toArray⟩] := by simp [strs]
/-- an owned row of strings reads as the list -/
theorem Acc.strs_ {w : World} {base e n c : Nat} {A : Option Addr} {l : List (List UInt8)} (h : Acc w base e 1 (.slice A n c) n (strs l)) : n = l.length ∧ Sl w w.heap.size 1 encS A l := by
  have hl : l.length = n := by simpa [strs] using h.length
  refine ⟨hl.symm, ?_⟩
  rcases h.cells with h0 | ⟨g, off, c', hv, hlt, hc⟩
  · exact .inl (List.eq_nil_of_length_eq_zero (by omega))
  · injection hv with h1 h2 h3
    subst h1
    refine .inr ⟨g, off, rfl, hlt, fun i hi j v hv => ?_⟩
    match j, hv with
    | 0, hv =>
      simp [encS] at hv
      subst hv
      have := hc i (.string ⟨(l[i]).toArray⟩) (by simp [strs, hi])
      simpa using this
/-- a function hands back a slice of strings in new memory -/
def RetStrs (w : World) (l : List (List UInt8)) (e : Ending) (w' : World) : Prop :=
  ∃ A c, e = .returned (.slice A l.length c) ∧ Sl w' w'.heap.size 1 encS A l ∧ Below w.heap.size w w'

theorem Src.lit (w : World) (size e : Nat) (cs : Array Value) (m : Nat) (h : cs.size = m * size) : Src (w.alloc (.cells cs e)) size (some ⟨w.heap.size, 0, none⟩) m cs.toList :=
  ⟨by simpa using h, fun _ => ⟨_, rfl, fun j u hu => by
    rw [Addr.add_lit, Nat.zero_add]
    simp only [World.cell?, heap_alloc_new]
    have hj := (List.getElem?_eq_some_iff.1 hu).1
    have : cs[j]? = some u := by simpa using hu
    simpa using this⟩⟩

theorem World.grownBy_none_any {w w' : World} {row : Option Nat} (h : w.grownBy w' none) : w.grownBy w' row := ⟨h.os, h.tape, h.output, h.size, fun k hk _ => h.block k hk (by simp)⟩

section
variable {P : Program} (w : World)
theorem run_app (base t ty e size bytes : Nat) (hT : ElT P t e size bytes) (v : Value) (n : Nat) (xs : List Value) (hacc : Acc w base e size v n xs)
    (A : Option Addr) (m c : Nat) (news : List Value) (hsrc : Src w size A m news) (h1 : ∀ u ∈ news, u.oneCell' = true)
    (h63 : n + m ≤ maxLen) (hbytes : (n + m) * bytes ≤ 140737488355328) (hbase : base ≤ w.heap.size) :
    ∃ v' w', (Builtin.append_ #[t, t] ty #[v, .slice A m c]).run P w = .ok v' w' ∧ Acc w' base e size v' (n + m) (xs ++ news) ∧ w.grownBy w' v.ownBlock ∧ Below base w w' ∧
      (v' = .slice none 0 0 ↔ v = .slice none 0 0 ∧ m = 0) ∧ (v'.ownBlock = v.ownBlock ∨ ∃ g, v'.ownBlock = some g ∧ w.heap.size ≤ g) := by
  obtain ⟨ht, hsz, i, z, hi, hz, hs, hby, hzs⟩ := hT
  rcases Nat.eq_zero_or_pos m with rfl | hm
  · have hn : news = [] := List.eq_nil_of_length_eq_zero (by simpa using hsrc.1)
    subst hn
    have hrun : (Builtin.append_ #[t, t] ty #[v, .slice A 0 c]).run P w = .ok v w := by
      rcases hacc with hown | ⟨_, g, off, rfl, _, _⟩
      · rcases hown.2 with ⟨rfl, rfl⟩ | ⟨g, cap, cur, rfl, _, _, hnc, _⟩
        · rcases A with _ | ad <;> simp [Builtin.append_, run_underlying ht, sizeOf, typeInfo, hi, Builtin.lenOf, Builtin.firstCells, loadCells, loadCellsFrom]
        · rcases A with _ | ad <;> simp [Builtin.append_, run_underlying ht, sizeOf, typeInfo, hi, Builtin.lenOf, Builtin.firstCells, loadCells, loadCellsFrom, hnc, storeCells]
      · rcases A with _ | ad <;> simp [Builtin.append_, run_underlying ht, sizeOf, typeInfo, hi, Builtin.lenOf, Builtin.firstCells, loadCells, loadCellsFrom, storeCells]
    exact ⟨v, w, hrun, by simpa using hacc, World.grownBy.refl w _, Below.refl _ _, by simp, .inl rfl⟩
  · obtain ⟨ad, rfl, hc⟩ := hsrc.2 hm
    rcases hacc with hown | ⟨hl, g, off, rfl, hlt, hcs⟩
    · obtain ⟨v', w', hr, h2, h3, h4, h5⟩ := run_append_own_at (P := P) w base t ty e i z size bytes ht hi hz hs hby hzs hsz v n xs hown ad m c news hsrc.1 hc h1 h63 hbytes hbase
      refine ⟨v', w', hr, .inl h2, h3, (Below.refl _ _).grown h3 hbase (fun k hk => (hown.lt k hk).1), h4, ?_⟩
      rcases h5 with h5 | h5
      · exact .inl h5
      · exact .inr ⟨_, h5, Nat.le_refl _⟩
    · obtain ⟨v', w', hr, r1, r2⟩ := run_append_arg_grows (P := P) w t ty e i z size bytes ht hi hz hs hby hzs hsz ⟨g, off, none⟩ n n xs hl (fun j u hj => by rw [Addr.add_lit]; exact hcs j u hj) ad m c news hsrc.1 hc (by omega) h63 hbytes
      refine ⟨v', w', hr, .inl ⟨r1.1, ?_⟩, World.grownBy_none_any r2, (Below.refl _ _).grown r2 hbase (by simp), ?_, ?_⟩
      · rcases r1.2 with h | ⟨g', cap, cur, e1, e2, e3⟩
        · exact .inl h
        · exact .inr ⟨g', cap, cur, e1, Nat.le_trans hbase e2, e3⟩
      · rcases r1.2 with ⟨_, h⟩ | ⟨g', cap, cur, rfl, _⟩
        · omega
        · simp
      · rcases r1.2 with ⟨_, h⟩ | ⟨g', cap, cur, rfl, e2, _⟩
        · omega
        · exact .inr ⟨g', rfl, e2⟩

theorem wp_app {o : Oper} {a : Act} {K : Act → World → Prop} {Q : Exit → Act → World → Prop} (s x : Operand) (t : TypeId)
    (ho : o.op = .call { callee := .builtin .append, args := #[s, x], argTypes := #[t, t] })
    (base e size bytes : Nat) (hT : ElT P t e size bytes) (v : Value) (n : Nat) (xs : List Value) (hs : a.eval s = v) (hacc : Acc w base e size v n xs)
    (A : Option Addr) (m c : Nat) (news : List Value) (hx : a.eval x = .slice A m c) (hsrc : Src w size A m news) (h1 : ∀ u ∈ news, u.oneCell' = true)
    (h63 : n + m ≤ maxLen) (hbytes : (n + m) * bytes ≤ 140737488355328) (hbase : base ≤ w.heap.size)
    (h : ∀ v' w', Acc w' base e size v' (n + m) (xs ++ news) → w.grownBy w' v.ownBlock → Below base w w' → (v' = .slice none 0 0 ↔ v = .slice none 0 0 ∧ m = 0) →
      (v'.ownBlock = v.ownBlock ∨ ∃ g, v'.ownBlock = some g ∧ w.heap.size ≤ g) → K (a.put o.dst v') w') : o.wp P a w K Q := by
  obtain ⟨v', w', hrun, h2, h3, h4, h5, h6⟩ := run_app (P := P) w base t o.type e size bytes hT v n xs hacc A m c news hsrc h1 h63 hbytes hbase
  unfold Oper.wp execOp
  simp only [ho, resolve, invoke, builtin, Sem.run_bind, Sem.run_pure, Result.andThen_ok, List.map_toArray, List.map_cons, List.map_nil, hs, hx, hrun]
  exact h v' w' h2 h3 h4 h5 h6

/-- append, for the walk -/
theorem wpList_app {ops : Array Oper} {rest : List Oper} {o : Oper} {a : Act} {Q : Exit → Act → World → Prop} (hgd : o.guard = none) (s x : Operand) (t : TypeId)
    (ho : o.op = .call { callee := .builtin .append, args := #[s, x], argTypes := #[t, t] })
    (base e size bytes : Nat) (hT : ElT P t e size bytes) (v : Value) (n : Nat) (xs : List Value) (hs : a.eval s = v) (hacc : Acc w base e size v n xs)
    (A : Option Addr) (m c : Nat) (news : List Value) (hx : a.eval x = .slice A m c) (hsrc : Src w size A m news) (h1 : ∀ u ∈ news, u.oneCell' = true)
    (h63 : n + m ≤ maxLen) (hbytes : (n + m) * bytes ≤ 140737488355328) (hbase : base ≤ w.heap.size)
    (h : ∀ v' w', Acc w' base e size v' (n + m) (xs ++ news) → w.grownBy w' v.ownBlock → Below base w w' → (v' = .slice none 0 0 ↔ v = .slice none 0 0 ∧ m = 0) →
      (v'.ownBlock = v.ownBlock ∨ ∃ g, v'.ownBlock = some g ∧ w.heap.size ≤ g) → wpList P ops Q rest (a.put o.dst v') w') : wpList P ops Q (o :: rest) a w :=
  wpList_plain hgd fun _ hK => wp_app w s x t ho base e size bytes hT v n xs hs hacc A m c news hx hsrc h1 h63 hbytes hbase fun v' w' h2 h3 h4 h5 h6 => hK _ _ (h v' w' h2 h3 h4 h5 h6)

/-- the same in a region that draws its order -/
theorem step_app {ops : Array Oper} {o : Oper} {a : Act} {K : Act → World → Prop} {Q : Exit → Act → World → Prop} {E : Prop} (hgd : o.guard = none) (s x : Operand) (t : TypeId)
    (ho : o.op = .call { callee := .builtin .append, args := #[s, x], argTypes := #[t, t] })
    (base e size bytes : Nat) (hT : ElT P t e size bytes) (v : Value) (n : Nat) (xs : List Value) (hs : a.eval s = v) (hacc : Acc w base e size v n xs)
    (A : Option Addr) (m c : Nat) (news : List Value) (hx : a.eval x = .slice A m c) (hsrc : Src w size A m news) (h1 : ∀ u ∈ news, u.oneCell' = true)
    (h63 : n + m ≤ maxLen) (hbytes : (n + m) * bytes ≤ 140737488355328) (hbase : base ≤ w.heap.size)
    (h : ∀ v' w', Acc w' base e size v' (n + m) (xs ++ news) → w.grownBy w' v.ownBlock → Below base w w' → (v' = .slice none 0 0 ↔ v = .slice none 0 0 ∧ m = 0) →
      (v'.ownBlock = v.ownBlock ∨ ∃ g, v'.ownBlock = some g ∧ w.heap.size ≤ g) → K (a.put o.dst v') w') :
    if Region.wanted o (yielded ops a.tmps) = true then Oper.wp P o a w K Q else E := by
  have hw : Region.wanted o (yielded ops a.tmps) = true := by simp [Region.wanted, hgd]
  rw [if_pos hw]
  exact wp_app w s x t ho base e size bytes hT v n xs hs hacc A m c news hx hsrc h1 h63 hbytes hbase h
end
end Go.Proofs.YtfiilbdkhelhgaaDoor



namespace Go.Proofs.YtfiilbdkhelhgaaDoor
open Go.RowKit

theorem flat_at {α : Type} {enc : α → List Value} {k : Nat} (hk : ∀ x, (enc x).length = k) : ∀ (l : List α) (i : Nat) (hi : i < l.length) (j : Nat), j < k → (l.flatMap enc)[i * k + j]? = (enc l[i])[j]?
  | [], i, hi, _, _ => by simp at hi
  | x :: l, 0, _, j, hj => by
    simp only [List.flatMap_cons, Nat.zero_mul, Nat.zero_add]
    rw [List.getElem?_append_left (by rw [hk]; exact hj)]
    rfl
  | x :: l, i + 1, hi, j, hj => by
    simp only [List.flatMap_cons]
    have e : (i + 1) * k + j = (enc x).length + (i * k + j) := by rw [hk, Nat.succ_mul]; omega
    rw [e, List.getElem?_append_right (by omega), Nat.add_sub_cancel_left, flat_at hk l i (by simpa using hi) j hj]
    rfl
theorem flat_len {α : Type} {enc : α → List Value} {k : Nat} (hk : ∀ x, (enc x).length = k) (l : List α) : (l.flatMap enc).length = l.length * k := by
  induction l with
  | nil => simp
  | cons x l ih => simp only [List.flatMap_cons, List.length_append, List.length_cons, hk, ih, Nat.succ_mul]; omega
theorem flat_split {n m k : Nat} (h : n < m * k) : n / k < m ∧ n % k < k ∧ n = (n / k) * k + n % k := by
  have hk : 0 < k := by
    rcases Nat.eq_zero_or_pos k with h0 | h0
    · subst h0; simp at h
    · exact h0
  refine ⟨Nat.div_lt_of_lt_mul (by rw [Nat.mul_comm]; exact h), Nat.mod_lt _ hk, ?_⟩
  rw [Nat.mul_comm]; exact (Nat.div_add_mod n k).symm

section
variable {α : Type} {w : World} {B k base e n c : Nat} {enc : α → List Value} {A : Option Addr} {l : List α}
theorem Sl.src (h : Sl w B k enc A l) (hk : ∀ x, (enc x).length = k) : Src w k A l.length (l.flatMap enc) := by
  refine ⟨flat_len hk l, fun hpos => ?_⟩
  rcases h with rfl | ⟨b, off, rfl, _, hc⟩
  · simp at hpos
  · refine ⟨_, rfl, fun j u hu => ?_⟩
    have hj : j < l.length * k := by rw [← flat_len hk l]; exact (List.getElem?_eq_some_iff.1 hu).1
    obtain ⟨h1, h2, h3⟩ := flat_split hj
    rw [Addr.add_lit]
    rw [h3, flat_at hk l _ h1 _ h2] at hu
    have := hc _ h1 _ _ hu
    rw [Nat.add_assoc, ← h3] at this
    exact this
theorem Acc.sl (h : Acc w base e k (.slice A n c) n (l.flatMap enc)) (hk : ∀ x, (enc x).length = k) (h0 : 0 < k) : n = l.length ∧ Sl w w.heap.size k enc A l := by
  have hl : l.length = n := by
    have := h.length
    rw [flat_len hk] at this
    exact Nat.eq_of_mul_eq_mul_right h0 this
  refine ⟨hl.symm, ?_⟩
  rcases h.cells with h0' | ⟨g, off, c', hv, hlt, hc⟩
  · exact .inl (List.eq_nil_of_length_eq_zero (by omega))
  · injection hv with h1 h2 h3
    subst h1
    refine .inr ⟨g, off, rfl, hlt, fun i hi j v hv => ?_⟩
    have hj : j < k := by rw [← hk l[i]]; exact (List.getElem?_eq_some_iff.1 hv).1
    have := hc (i * k + j) v (by rw [flat_at hk l i hi j hj]; exact hv)
    rw [Nat.add_assoc]
    exact this
end

/-- a module's cells -/
def encM (m : Mod) : List Value := [.string ⟨m.1.toArray⟩, .int .i64 m.2.1, .int .i64 m.2.2.1, .int .i64 m.2.2.2]
theorem encM_len (m : Mod) : (encM m).length = 4 := rfl
theorem encM_one (l : List Mod) : ∀ u ∈ l.flatMap encM, u.oneCell' = true := by
  intro u hu
  obtain ⟨m, _, h⟩ := List.mem_flatMap.1 hu
  simp [encM] at h
  rcases h with rfl | rfl | rfl | rfl <;> rfl
/-- the value of a module -/
def modV (m : Mod) : Value := .agg #[.string ⟨m.1.toArray⟩, .int .i64 m.2.1, .int .i64 m.2.2.1, .int .i64 m.2.2.2]
/-- the cells of the i-th module -/
theorem Sl.mod {w : World} {B : Nat} {A : Option Addr} {l : List Mod} (h : Sl w B 4 encM A l) {i : Nat} (hi : i < l.length) :
    ∃ b off, A = some ⟨b, off, none⟩ ∧ b < B ∧ w.cell? ⟨b, off + i * 4, none⟩ = some (.string ⟨(l[i]).1.toArray⟩) ∧ w.cell? ⟨b, off + i * 4 + 1, none⟩ = some (.int .i64 (l[i]).2.1) ∧
      w.cell? ⟨b, off + i * 4 + 2, none⟩ = some (.int .i64 (l[i]).2.2.1) ∧ w.cell? ⟨b, off + i * 4 + 3, none⟩ = some (.int .i64 (l[i]).2.2.2) := by
  obtain ⟨b, off, e, hb, hc⟩ := h.at_ hi
  exact ⟨b, off, e, hb, by simpa using hc 0 _ rfl, hc 1 _ rfl, hc 2 _ rfl, hc 3 _ rfl⟩
/-- a function hands back a slice of modules in new memory -/
def RetMods (w : World) (l : List Mod) (e : Ending) (w' : World) : Prop :=
  ∃ A c, e = .returned (.slice A l.length c) ∧ l.length ≤ c ∧ Sl w' w'.heap.size 4 encM A l ∧ Below w.heap.size w w'
end Go.Proofs.YtfiilbdkhelhgaaDoor

namespace Go.Proofs.YtfiilbdkhelhgaaDoor
open Go.RowKit

theorem Acc.slAny {α : Type} {enc : α → List Value} {w : World} {base e k c n : Nat} {A : Option Addr} {l : List α} (h : Acc w base e k (.slice A n c) n (l.flatMap enc)) (hk : ∀ x, (enc x).length = k) (h0 : 0 < k) : Sl w w.heap.size k enc A l := (h.sl hk h0).2

theorem Acc.addr {w : World} {base e size n c : Nat} {A : Option Addr} {xs : List Value} (h : Acc w base e size (.slice A n c) n xs) : (A = none ∧ n = 0 ∧ c = 0) ∨ ∃ g off, A = some ⟨g, off, none⟩ ∧ n ≤ c := by
  rcases h with h | ⟨_, g, off, e, _⟩
  · rcases h.2 with ⟨e, h0⟩ | ⟨g, cap, cur, e, _, _, hn, _⟩
    · injection e with e1 e2 e3
      exact .inl ⟨e1, h0, e3⟩
    · injection e with e1 e2 e3
      exact .inr ⟨g, 0, e1, by omega⟩
  · injection e with e1 e2 e3
    exact .inr ⟨g, off, e1, by omega⟩
theorem Acc.cap {w : World} {base e size n c : Nat} {A : Option Addr} {xs : List Value} (h : Acc w base e size (.slice A n c) n xs) : n ≤ c := by
  rcases h.addr with ⟨_, rfl, rfl⟩ | ⟨g, off, _, h⟩
  · exact Nat.le_refl _
  · exact h
theorem _root_.Go.RowKit.Below.drewN {B : Nat} {a w : World} (h : Below B a w) (n : Nat) : Below B a (w.drewN n) := ⟨h.os, h.tape, h.output, h.size, h.block⟩
theorem Acc.less {w : World} {base base' e size n : Nat} {v : Value} {xs : List Value} (h : Acc w base e size v n xs) (hb : base' ≤ base) : Acc w base' e size v n xs := by
  rcases h with h | h
  · refine .inl ⟨h.1, ?_⟩
    rcases h.2 with h | ⟨g, cap, cur, h1, h2, h3⟩
    · exact .inl h
    · exact .inr ⟨g, cap, cur, h1, Nat.le_trans hb h2, h3⟩
  · exact .inr h
theorem Sl.take {α : Type} {w : World} {B k : Nat} {enc : α → List Value} {A : Option Addr} {l : List α} (h : Sl w B k enc A l) (n : Nat) : Sl w B k enc A (l.take n) := by
  rcases h with rfl | ⟨b, off, e, hb, hc⟩
  · exact .inl (by simp)
  · refine .inr ⟨b, off, e, hb, fun i hi j v hv => ?_⟩
    simp at hi
    exact hc i (by omega) j v (by simpa using hv)
/-- the address of a slice that is cut at its head -/
def cutA (A : Option Addr) (c a size : Nat) : Option Addr := if c = a then A else A.map (·.add (a * size))
theorem Sl.drop {α : Type} {w : World} {B k : Nat} {enc : α → List Value} {A : Option Addr} {l : List α} (h : Sl w B k enc A l) (c n : Nat) (hc : l.length ≤ c) : Sl w B k enc (cutA A c n k) (l.drop n) := by
  rcases h with rfl | ⟨b, off, rfl, hb, hcs⟩
  · exact .inl (by simp)
  · unfold cutA
    split
    · subst c
      exact .inl (by simpa using hc)
    · refine .inr ⟨b, off + n * k, by simp [Addr.add], hb, fun i hi j v hv => ?_⟩
      simp at hi
      have := hcs (n + i) (by omega) j v (by simpa using hv)
      rw [Nat.add_mul, ← Nat.add_assoc] at this
      exact this
section
variable {P : Program} {t e size bytes : Nat}
theorem run_cut_lo (hT : ElT P t e size bytes) (A : Option Addr) (n c a : Nat) (ha : a ≤ n) (w : World) :
    (Instr.slice t (.slice A n c) (some (.int .i64 (a : Int))) none none).run P w = .ok (.slice (cutA A c a size) (n - a) (c - a)) w := by
  obtain ⟨ht, hsz, i, z, hi, hz, hs, hby, hzs⟩ := hT
  have h1 : (0 : Int) ≤ (a : Int) ∧ (a : Int) ≤ (n : Int) := by omega
  simp [Instr.slice, Instr.sliceBounds, Instr.sliceBound, run_underlying ht, sizeOf, typeInfo, hi, asIntOf, h1, ha, cutA, hs]
theorem run_cut_hi (hT : ElT P t e size bytes) (A : Option Addr) (n c a : Nat) (ha : a ≤ c) (w : World) :
    (Instr.slice t (.slice A n c) none (some (.int .i64 (a : Int))) none).run P w = .ok (.slice A a c) w := by
  obtain ⟨ht, hsz, i, z, hi, hz, hs, hby, hzs⟩ := hT
  simp [Instr.slice, Instr.sliceBounds, Instr.sliceBound, run_underlying ht, sizeOf, typeInfo, hi, asIntOf, ha]
  rcases A with _ | A
  · simp
  · intro _; simp [Addr.add]
theorem run_own (w : World) (hT : ElT P t e size bytes) (base ty : Nat) (v : Value) (n : Nat) (xs : List Value) (hown : w.ownsRow base e size v n xs)
    (A : Option Addr) (m c : Nat) (news : List Value) (hsrc : Src w size A m news) (hm : 0 < m) (h1 : ∀ u ∈ news, u.oneCell' = true)
    (h63 : n + m ≤ maxLen) (hbytes : (n + m) * bytes ≤ 140737488355328) (hbase : base ≤ w.heap.size) :
    ∃ v' w', (Builtin.append_ #[t, t] ty #[v, .slice A m c]).run P w = .ok v' w' ∧ w'.ownsRow base e size v' (n + m) (xs ++ news) ∧ w.grownBy w' v.ownBlock ∧ Below base w w' := by
  obtain ⟨ht, hsz, i, z, hi, hz, hs, hby, hzs⟩ := hT
  obtain ⟨ad, rfl, hc⟩ := hsrc.2 hm
  obtain ⟨v', w', hr, h2, h3, h4, h5⟩ := run_append_own_at (P := P) w base t ty e i z size bytes ht hi hz hs hby hzs hsz v n xs hown ad m c news hsrc.1 hc h1 h63 hbytes hbase
  exact ⟨v', w', hr, h2, h3, (Below.refl _ _).grown h3 hbase (fun k hk => (hown.lt k hk).1)⟩
theorem wp_own {o : Oper} {a : Act} {w : World} {K : Act → World → Prop} {Q : Exit → Act → World → Prop} (s x : Operand)
    (ho : o.op = .call { callee := .builtin .append, args := #[s, x], argTypes := #[t, t] })
    (base : Nat) (hT : ElT P t e size bytes) (v : Value) (n : Nat) (xs : List Value) (hs : a.eval s = v) (hown : w.ownsRow base e size v n xs)
    (A : Option Addr) (m c : Nat) (news : List Value) (hx : a.eval x = .slice A m c) (hsrc : Src w size A m news) (hm : 0 < m) (h1 : ∀ u ∈ news, u.oneCell' = true)
    (h63 : n + m ≤ maxLen) (hbytes : (n + m) * bytes ≤ 140737488355328) (hbase : base ≤ w.heap.size)
    (h : ∀ v' w', w'.ownsRow base e size v' (n + m) (xs ++ news) → w.grownBy w' v.ownBlock → Below base w w' → K (a.put o.dst v') w') : o.wp P a w K Q := by
  obtain ⟨v', w', hrun, h2, h3, h4⟩ := run_own (P := P) w hT base o.type v n xs hown A m c news hsrc hm h1 h63 hbytes hbase
  unfold Oper.wp execOp
  simp only [ho, resolve, invoke, builtin, Sem.run_bind, Sem.run_pure, Result.andThen_ok, List.map_toArray, List.map_cons, List.map_nil, hs, hx, hrun]
  exact h v' w' h2 h3 h4
/-- append to an own row, for the walk -/
theorem wpList_own {w : World} {ops : Array Oper} {rest : List Oper} {o : Oper} {a : Act} {Q : Exit → Act → World → Prop} (hgd : o.guard = none) (s x : Operand)
    (ho : o.op = .call { callee := .builtin .append, args := #[s, x], argTypes := #[t, t] })
    (base : Nat) (hT : ElT P t e size bytes) (v : Value) (n : Nat) (xs : List Value) (hs : a.eval s = v) (hown : w.ownsRow base e size v n xs)
    (A : Option Addr) (m c : Nat) (news : List Value) (hx : a.eval x = .slice A m c) (hsrc : Src w size A m news) (hm : 0 < m) (h1 : ∀ u ∈ news, u.oneCell' = true)
    (h63 : n + m ≤ maxLen) (hbytes : (n + m) * bytes ≤ 140737488355328) (hbase : base ≤ w.heap.size)
    (h : ∀ v' w', w'.ownsRow base e size v' (n + m) (xs ++ news) → w.grownBy w' v.ownBlock → Below base w w' → wpList P ops Q rest (a.put o.dst v') w') : wpList P ops Q (o :: rest) a w :=
  wpList_plain hgd fun _ hK => wp_own s x ho base hT v n xs hs hown A m c news hx hsrc hm h1 h63 hbytes hbase fun v' w' h2 h3 h4 => hK _ _ (h v' w' h2 h3 h4)
/-- the same in a region that draws its order -/
theorem step_own {w : World} {ops : Array Oper} {o : Oper} {a : Act} {K : Act → World → Prop} {Q : Exit → Act → World → Prop} {E : Prop} (hgd : o.guard = none) (s x : Operand)
    (ho : o.op = .call { callee := .builtin .append, args := #[s, x], argTypes := #[t, t] })
    (base : Nat) (hT : ElT P t e size bytes) (v : Value) (n : Nat) (xs : List Value) (hs : a.eval s = v) (hown : w.ownsRow base e size v n xs)
    (A : Option Addr) (m c : Nat) (news : List Value) (hx : a.eval x = .slice A m c) (hsrc : Src w size A m news) (hm : 0 < m) (h1 : ∀ u ∈ news, u.oneCell' = true)
    (h63 : n + m ≤ maxLen) (hbytes : (n + m) * bytes ≤ 140737488355328) (hbase : base ≤ w.heap.size)
    (h : ∀ v' w', w'.ownsRow base e size v' (n + m) (xs ++ news) → w.grownBy w' v.ownBlock → Below base w w' → K (a.put o.dst v') w') :
    if Region.wanted o (yielded ops a.tmps) = true then Oper.wp P o a w K Q else E := by
  have hw : Region.wanted o (yielded ops a.tmps) = true := by simp [Region.wanted, hgd]
  rw [if_pos hw]
  exact wp_own s x ho base hT v n xs hs hown A m c news hx hsrc hm h1 h63 hbytes hbase h
end
end Go.Proofs.YtfiilbdkhelhgaaDoor

namespace Go.Proofs.YtfiilbdkhelhgaaDoor
open Go.RowKit

section
variable {P : Program} {ops : Array Oper} {Q : Exit → Act → World → Prop}
def unlisted (ops : Array Oper) (L : Array Bool) : Nat := ((List.range ops.size).filter fun i => !L.getD i true).length
theorem filter_le {p q : Nat → Bool} (h : ∀ j, p j = true → q j = true) : ∀ l : List Nat, (l.filter p).length ≤ (l.filter q).length
  | [] => by simp
  | x :: l => by
    have ih := filter_le h l
    cases hp : p x
    · cases hq : q x
      · simpa [List.filter_cons, hp, hq] using ih
      · simp only [List.filter_cons, hp, hq, if_true, List.length_cons, Bool.false_eq_true, if_false]; omega
    · simp only [List.filter_cons, hp, h x hp, if_true, List.length_cons]; omega
theorem filter_lt {p q : Nat → Bool} {i : Nat} (h : ∀ j, p j = true → q j = true) (hp : p i = false) (hq : q i = true) : ∀ l : List Nat, i ∈ l → (l.filter p).length < (l.filter q).length
  | [], h => by cases h
  | x :: l, hm => by
    have hle := filter_le h l
    by_cases hx : i = x
    · subst hx
      simp only [List.filter_cons, hp, hq, if_true, List.length_cons, Bool.false_eq_true, if_false]; omega
    · have hm' : i ∈ l := by
        rcases List.mem_cons.1 hm with e | e
        · exact absurd e hx
        · exact e
      have ih := filter_lt h hp hq l hm'
      cases hp' : p x
      · cases hq' : q x
        · simpa [List.filter_cons, hp', hq'] using ih
        · simp only [List.filter_cons, hp', hq', if_true, List.length_cons, Bool.false_eq_true, if_false]; omega
      · simp only [List.filter_cons, hp', h x hp', if_true, List.length_cons]; omega
theorem unlisted_set {L : Array Bool} {i : Nat} (hi : i < ops.size) (hL : L.size = ops.size) (hf : L.getD i true = false) : unlisted ops (L.setIfInBounds i true) < unlisted ops L := by
  refine filter_lt (i := i) (fun j h => ?_) ?_ (by simp [hf]) _ (List.mem_range.2 hi)
  · by_cases hj : i = j
    · subst hj
      simp [hL, hi] at h
    · simpa [Array.getElem?_setIfInBounds_ne hj] using h
  · simp [hL, hi]

theorem wpAny_inv {md : Region.Mode} (Inv : Array Bool → Act → World → Prop) (hsz : ∀ L a w, Inv L a w → L.size = ops.size)
    (step : ∀ L a w i, i ∈ Region.ready md ops L → Inv L a w → wpOp P ops Q i (Inv (L.setIfInBounds i true)) a w)
    (fin : ∀ L a w, Region.ready md ops L = [] → Inv L a w → Q .normal a w) :
    ∀ fuel L a w, unlisted ops L ≤ fuel → Inv L a w → wpAny P md ops Q fuel L a w := by
  intro fuel
  induction fuel with
  | zero =>
    intro L a w hu hI
    have hr : Region.ready md ops L = [] := by
      unfold unlisted at hu
      have h0 : ((List.range ops.size).filter fun i => !L.getD i true) = [] := List.eq_nil_of_length_eq_zero (by omega)
      unfold Region.ready
      rw [List.filter_eq_nil_iff] at h0 ⊢
      intro i hi hc
      have := h0 i hi
      simp only [Bool.and_eq_true] at hc
      exact this hc.1
    exact ⟨hr, fin L a w hr hI⟩
  | succ fuel ih =>
    intro L a w hu hI
    refine ⟨fun hr => fin L a w hr hI, fun i hi => ?_⟩
    have hi' := hi
    unfold Region.ready at hi'
    obtain ⟨h1, h2⟩ := List.mem_filter.1 hi'
    simp only [Bool.and_eq_true, Bool.not_eq_true'] at h2
    refine wpOp_mono (fun a' w' h => ?_) (step L a w i hi hI)
    refine ih _ _ _ ?_ h
    have := unlisted_set (ops := ops) (List.mem_range.1 h1) (hsz L a w hI) h2.1
    omega

/-- The rule. -/
theorem wp_region_inv {id : Nat} {a : Act} {w : World} (hm : P.follows .mixedOrders = true) (Inv : Array Bool → Act → World → Prop) (hsz : ∀ L a w, Inv L a w → L.size = ops.size)
    (h0 : Inv (Array.replicate ops.size false) a w.drew)
    (step : ∀ L a w i, i ∈ Region.ready .any ops L → Inv L a w → wpOp P ops Q i (Inv (L.setIfInBounds i true)) a w)
    (fin : ∀ L a w, Region.ready .any ops L = [] → Inv L a w → Q .normal a w) : (Code.region id ops true).wp P Q a w :=
  wp_region_any hm (wpAny_inv Inv hsz step fin _ _ _ _ (by
    unfold unlisted
    exact Nat.le_trans (List.length_filter_le _ _) (by simp)) h0)

/-- each operation waits for earlier ones alone -/
def wfOps (ops : Array Oper) : Bool := (List.range ops.size).all fun i => ((ops[i]?).map fun o => o.after.all fun e => !Region.binds .any e || decide (e.on < i)).getD false
theorem all_listed {L : Array Bool} (hwf : wfOps ops = true) (hr : Region.ready .any ops L = []) (hL : L.size = ops.size) : ∀ i, i < ops.size → L.getD i false = true := by
  intro i
  induction i using Nat.strongRecOn with
  | _ i ih =>
    intro hi
    cases hb : L.getD i false with
    | true => rfl
    | false =>
      exfalso
      have hb' : L.getD i true = false := by
        have : i < L.size := by omega
        simpa [this] using hb
      unfold Region.ready at hr
      rw [List.filter_eq_nil_iff] at hr
      refine hr i (List.mem_range.2 hi) ?_
      have ho : ops[i]? = some ops[i] := Array.getElem?_eq_getElem hi
      unfold wfOps at hwf
      have h1 := (List.all_eq_true.1 hwf) i (List.mem_range.2 hi)
      rw [ho] at h1 ⊢
      simp only [Option.map_some, Option.getD_some, hb', Bool.not_false, Bool.true_and] at h1 ⊢
      rw [Array.all_eq_true'] at h1 ⊢
      intro e he
      have h2 := h1 e he
      simp only [Bool.or_eq_true, Bool.not_eq_true', decide_eq_true_eq] at h2 ⊢
      rcases h2 with h2 | h2
      · exact .inl h2
      · exact .inr (ih e.on h2 (by omega))

/-- The rule, an operation at a time: 'hj': its place; the operations that it waits for have been carried out. -/
theorem wp_region_each {id : Nat} {a : Act} {w : World} (hm : P.follows .mixedOrders = true) (Inv : Array Bool → Act → World → Prop) (hsz : ∀ L a w, Inv L a w → L.size = ops.size)
    (h0 : Inv (Array.replicate ops.size false) a w.drew)
    (step : ∀ i o, ops[i]? = some o → ∀ L a w, L.getD i true = false → (o.after.all fun e => !Region.binds .any e || L.getD e.on false) = true → Inv L a w →
      if Region.wanted o (yielded ops a.tmps) then o.wp P a w (Inv (L.setIfInBounds i true)) Q ∨ (o.asks P a w ∧ LetsOut Q) else Inv (L.setIfInBounds i true) (a.put o.dst undef) w)
    (hwf : wfOps ops = true) (fin : ∀ L a w, (∀ i, i < ops.size → L.getD i false = true) → Inv L a w → Q .normal a w) : (Code.region id ops true).wp P Q a w :=
  wp_region_inv hm Inv hsz h0 (fun L a w i hi hI => by
    unfold Region.ready at hi
    obtain ⟨h1, h2⟩ := List.mem_filter.1 hi
    simp only [Bool.and_eq_true, Bool.not_eq_true'] at h2
    have hlt := List.mem_range.1 h1
    have ho : ops[i]? = some ops[i] := Array.getElem?_eq_getElem hlt
    have h3 := h2.2
    rw [ho] at h3
    simp only [Option.map_some, Option.getD_some] at h3
    unfold wpOp
    rw [ho]
    exact step i _ ho L a w h2.1 h3 hI) (fun L a w hr hI => fin L a w (all_listed hwf hr (hsz L a w hI)) hI)
end
end Go.Proofs.YtfiilbdkhelhgaaDoor

namespace Go.Proofs.YtfiilbdkhelhgaaDoor

def lowc (c : UInt8) : Bool := decide (97 ≤ c.toNat ∧ c.toNat ≤ 122)
def othc (c : UInt8) : Bool := decide (48 ≤ c.toNat ∧ c.toNat ≤ 57 ∨ c.toNat = 45 ∨ c.toNat = 46 ∨ c.toNat = 95)
/-- may stand at place i of a part -/
def pok (i : Nat) (c : UInt8) : Bool := lowc c || (othc c && decide (i ≠ 0))
/-- the first k bytes of a part -/
def partK (l : List UInt8) (k : Nat) : Bool := (List.range k).all fun i => pok i (l.getD i 0)
def partOk (l : List UInt8) : Bool := partK l l.length && decide (l ≠ [])
theorem partK_succ (l : List UInt8) (k : Nat) : partK l (k + 1) = (partK l k && pok k (l.getD k 0)) := by
  simp [partK, List.range_succ]
theorem partK_false (l : List UInt8) (k n : Nat) (h : k < n) (hp : pok k (l.getD k 0) = false) : partK l n = false := by
  unfold partK
  rw [List.all_eq_false]
  exact ⟨k, List.mem_range.2 h, by rw [hp]; simp⟩

theorem pok_low {i : Nat} {c : UInt8} (h : (97 : Int) ≤ (c.toNat : Int)) (h' : (c.toNat : Int) ≤ 122) : pok i c = true := by
  have : lowc c = true := by simp [lowc]; omega
  simp [pok, this]
theorem pok_oth {i : Nat} {c : UInt8} (hi : 0 < i) (h : (48 ≤ (c.toNat : Int) ∧ (c.toNat : Int) ≤ 57) ∨ (c.toNat : Int) = 45 ∨ (c.toNat : Int) = 46 ∨ (c.toNat : Int) = 95) : pok i c = true := by
  have h1 : othc c = true := by simp [othc]; omega
  have h2 : i ≠ 0 := by omega
  simp [pok, h1, h2]
theorem pok_zero {i : Nat} {c : UInt8} (hi : i = 0) (h : (c.toNat : Int) < 97 ∨ 122 < (c.toNat : Int)) : pok i c = false := by
  have h1 : lowc c = false := by simp [lowc]; omega
  simp [pok, h1, hi]
theorem pok_bad {i : Nat} {c : UInt8} (h : (c.toNat : Int) < 45 ∨ (c.toNat : Int) = 47 ∨ (58 ≤ (c.toNat : Int) ∧ (c.toNat : Int) ≤ 94) ∨ (c.toNat : Int) = 96 ∨ 122 < (c.toNat : Int)) : pok i c = false := by
  have h1 : lowc c = false := by simp [lowc]; omega
  have h2 : othc c = false := by simp [othc]; omega
  simp [pok, h1, h2]

/-- the pieces between separators -/
def splitL (b : UInt8) : List UInt8 → List (List UInt8)
  | [] => [[]]
  | c :: l => if c = b then [] :: splitL b l else match splitL b l with
    | h :: t => (c :: h) :: t
    | [] => [[c]]
def pathOk (l : List UInt8) : Bool := decide (l.length ≤ 60) && (splitL 47 l).all partOk
end Go.Proofs.YtfiilbdkhelhgaaDoor

namespace Go.Proofs.YtfiilbdkhelhgaaDoor
open Go.Lib

theorem splitL_ne (b : UInt8) (l : List UInt8) : splitL b l ≠ [] := by
  cases l with
  | nil => simp [splitL]
  | cons c l =>
    unfold splitL
    split
    · simp
    · split <;> simp
theorem splitL_miss (b : UInt8) : ∀ l : List UInt8, indexByte l b = -1 → splitL b l = [l]
  | [], _ => rfl
  | c :: l, h => by
    unfold indexByte at h
    have hc : ¬ c = b := by intro e; subst e; simp at h
    have hl : indexByte l b = -1 := by
      have hg := indexByte_ge l b
      simp [hc] at h
      by_cases h0 : indexByte l b = -1
      · exact h0
      · have := h h0; omega
    simp [splitL, hc, splitL_miss b l hl]
theorem splitL_hit (b : UInt8) : ∀ (l : List UInt8) (i : Nat), indexByte l b = i → splitL b l = l.take i :: splitL b (l.drop (i + 1))
  | [], i, h => by simp [indexByte] at h
  | c :: l, i, h => by
    unfold indexByte at h
    by_cases hc : c = b
    · subst hc
      simp at h
      obtain rfl : i = 0 := by omega
      simp [splitL]
    · have hg := indexByte_ge l b
      simp [hc] at h
      split at h
      · omega
      · obtain ⟨j, rfl⟩ : ∃ j, i = j + 1 := ⟨i - 1, by omega⟩
        have hl : indexByte l b = j := by omega
        have ih := splitL_hit b l j hl
        simp [splitL, hc, ih]
theorem indexByte_at (b : UInt8) : ∀ (l : List UInt8) (i : Nat), (∀ j, j < i → l.getD j 0 ≠ b) → i < l.length → l.getD i 0 = b → indexByte l b = i
  | [], i, _, h, _ => by simp at h
  | c :: l, 0, _, _, h => by
    have : c = b := by simpa using h
    simp [indexByte, this]
  | c :: l, i + 1, hn, hl, h => by
    have h0 : ¬ c = b := by have := hn 0 (by omega); simpa using this
    have ih := indexByte_at b l i (fun j hj => by have := hn (j + 1) (by omega); simpa using this) (by simpa using hl) (by simpa using h)
    unfold indexByte
    simp [h0, ih]
    try omega
theorem indexByte_no (b : UInt8) : ∀ (l : List UInt8), (∀ j, j < l.length → l.getD j 0 ≠ b) → indexByte l b = -1
  | [], _ => rfl
  | c :: l, hn => by
    have h0 : ¬ c = b := by have := hn 0 (by simp); simpa using this
    have ih := indexByte_no b l (fun j hj => by have := hn (j + 1) (by simp; omega); simpa using this)
    unfold indexByte
    simp [h0, ih]
/-- a piece is found -/
theorem split_step (b : UInt8) (l : List UInt8) (P : List (List UInt8)) (f k : Nat) (hfk : f ≤ k) (hk : k < l.length) (hs : splitL b l = P ++ splitL b (l.drop f)) (hn : ∀ j, f ≤ j → j < k → l.getD j 0 ≠ b) (hb : l.getD k 0 = b) :
    splitL b l = (P ++ [(l.drop f).take (k - f)]) ++ splitL b (l.drop (k + 1)) := by
  have hfk' : f + (k - f) = k := by omega
  have hat : (l.drop f).getD (k - f) 0 = b := by simpa [hfk'] using hb
  have hi := indexByte_at b (l.drop f) (k - f) (fun j hj => by have := hn (f + j) (by omega) (by omega); simpa using this) (by simp; omega) hat
  rw [hs, splitL_hit b _ _ hi]
  have : f + (k - f + 1) = k + 1 := by omega
  simp [List.drop_drop, this]
theorem split_end (b : UInt8) (l : List UInt8) (P : List (List UInt8)) (f : Nat) (hs : splitL b l = P ++ splitL b (l.drop f)) (hn : ∀ j, f ≤ j → j < l.length → l.getD j 0 ≠ b) : splitL b l = P ++ [l.drop f] := by
  rw [hs, splitL_miss b _ (indexByte_no b _ (fun j hj => by have := hn (f + j) (by omega) (by simp at hj; omega); simpa using this))]

theorem splitB_eq (b : UInt8) : ∀ (k : Nat) (l : List UInt8), l.length ≤ k →
    splitB ⟨#[b]⟩ 0 (countB ⟨l.toArray⟩ ⟨#[b]⟩) ⟨l.toArray⟩ = (splitL b l).map (fun x => (⟨x.toArray⟩ : ByteArray)) ∧ countB ⟨l.toArray⟩ ⟨#[b]⟩ + 1 = (splitL b l).length := by
  intro k
  induction k with
  | zero =>
    intro l hl
    obtain rfl : l = [] := List.eq_nil_of_length_eq_zero (by omega)
    have h : indexB ⟨([] : List UInt8).toArray⟩ ⟨#[b]⟩ = -1 := rfl
    rw [countB_miss _ _ h]
    exact ⟨rfl, rfl⟩
  | succ k ih =>
    intro l hl
    have hi : indexB ⟨l.toArray⟩ ⟨#[b]⟩ = indexByte l b := index_one l b
    have hg := indexByte_ge l b
    rcases (show indexByte l b = -1 ∨ ∃ i : Nat, indexByte l b = i by
      by_cases h : indexByte l b = -1
      · exact .inl h
      · exact .inr ⟨(indexByte l b).toNat, by omega⟩) with h | ⟨i, h⟩
    · rw [countB_miss _ _ (hi.trans h), splitL_miss b l h]
      exact ⟨rfl, rfl⟩
    · have h' := hi.trans h
      have hle := index_le l [b]
      rw [index_one, h] at hle
      rw [countB_hit _ _ i (by simp [ByteArray.size]) h', Nat.add_comm 1, splitB_hit _ _ _ _ i h', splitL_hit b l i h]
      have e1 : (⟨l.toArray⟩ : ByteArray).extract (i + (⟨#[b]⟩ : ByteArray).size) (⟨l.toArray⟩ : ByteArray).size = ⟨(l.drop (i + 1)).toArray⟩ := by
        rw [ByteArray.extract_mk]
        congr 2
        rw [List.take_of_length_le]
        · rfl
        · simp [ByteArray.size]
      have e2 : (⟨l.toArray⟩ : ByteArray).extract 0 (i + 0) = ⟨(l.take i).toArray⟩ := by
        rw [ByteArray.extract_mk]; simp
      rw [e1, e2]
      have := ih (l.drop (i + 1)) (by simp; omega)
      exact ⟨by rw [this.1]; rfl, by rw [this.2]; rfl⟩
end Go.Proofs.YtfiilbdkhelhgaaDoor

namespace Go.Proofs.YtfiilbdkhelhgaaDoor

def dec (n : Int) : List UInt8 := Lib.decDigits n.toNat
def dig (m : Nat) : UInt8 := UInt8.ofNat (48 + m % 10)
theorem decDigits_step (n : Nat) : Lib.decDigits n = (if n / 10 = 0 then [] else Lib.decDigits (n / 10)) ++ [dig n] := by
  unfold dig
  rw [Lib.decDigits]
  by_cases h : n < 10
  · have h1 : n / 10 = 0 := by omega
    have h2 : n % 10 = n := by omega
    simp [h, h1, h2]
  · have h1 : ¬ n / 10 = 0 := by omega
    simp [h, h1]
theorem decDigits_len : ∀ (k n : Nat), n < 10 ^ (k + 1) → (Lib.decDigits n).length ≤ k + 1
  | 0, n, h => by
    have : n < 10 := by simpa using h
    rw [Lib.decDigits]; simp [this]
  | k + 1, n, h => by
    rw [decDigits_step]
    split
    · simp
    · have : n / 10 < 10 ^ (k + 1) := by
        rw [Nat.pow_succ] at h
        omega
      have := decDigits_len k (n / 10) this
      simp; omega
theorem dec_len (n : Int) (h : n ≤ 9999) : (dec n).length ≤ 4 := decDigits_len 3 n.toNat (by simp; omega)
/-- the text of a version -/
def vtext (x y z : Int) : List UInt8 := if vok x y z = true then [118] ++ dec x ++ [46] ++ dec y ++ [46] ++ dec z else [63]
theorem vtext_len (x y z : Int) : (vtext x y z).length ≤ 20 := by
  unfold vtext
  split
  · rename_i h
    simp [vok] at h
    have h1 := dec_len x (by omega)
    have h2 := dec_len y (by omega)
    have h3 := dec_len z (by omega)
    simp; omega
  · simp
end Go.Proofs.YtfiilbdkhelhgaaDoor

namespace Go.Proofs.YtfiilbdkhelhgaaDoor

/-- the path of the k-th module stands before it -/
def dupAt (l : List Mod) (i : Nat) : Bool := (l.take i).any fun y => decide (y.1 = (l.getD i default).1)
/-- among the first k modules a path occurs twice -/
def dupK (l : List Mod) (k : Nat) : Bool := (List.range k).any fun i => dupAt l i
theorem dupK_succ (l : List Mod) (k : Nat) : dupK l (k + 1) = (dupK l k || dupAt l k) := by
  simp [dupK, List.range_succ]
theorem dupK_true (l : List Mod) (k n : Nat) (h : k < n) (hd : dupAt l k = true) : dupK l n = true := by
  unfold dupK
  rw [List.any_eq_true]
  exact ⟨k, List.mem_range.2 h, hd⟩
def badPath (m : Mod) : Bool := !pathOk m.1
def badVer (m : Mod) : Bool := !vok m.2.1 m.2.2.1 m.2.2.2
/-- the first error of a manifest, a module and those that it requires -/
def mcheck (m : Mod) (l : List Mod) : Int :=
  if (m :: l).any badPath = true then 5 else if (m :: l).any badVer = true then 11 else if dupK (m :: l) (l.length + 1) = true then 6 else if 64 < l.length then 2 else 0
theorem any_take_succ {α : Type} (p : α → Bool) (l : List α) (k : Nat) (h : k < l.length) : (l.take (k + 1)).any p = ((l.take k).any p || p l[k]) := by
  rw [List.take_succ_eq_append_getElem h, List.any_append]
  simp
end Go.Proofs.YtfiilbdkhelhgaaDoor

namespace Go.Proofs.YtfiilbdkhelhgaaDoor
open Go.RowKit
open Go.Maps (Keyed)

/-- a value as its own reading -/
def Rv (v : Value) : Option (DataW Value × List MemPlace) := some (.held v, [])
/-- a type of keys, and data for them -/
structure KeyT (P : Program) (k : TypeId) (α : Type) where
  enc : α → Value
  ok : α → Prop
  lit : α → Lit
  keyed : Keyed P k
  key : ∀ a, ok a → keyOf P k (enc a) = some (lit a)
  inv : ∀ v l, keyOf P k v = some l → ∃ a, ok a ∧ v = enc a
  encInj : ∀ a b, enc a = enc b → a = b

section
variable {P : Program} {k t e : TypeId} {α : Type} {T : KeyT P k α} {w : World} {b n : Nat} {f : α → Option Value}
theorem KeyT.lit_inj {a a' : α} (h : T.ok a) (h' : T.ok a') (e : T.lit a = T.lit a') : a = a' := T.encInj _ _ (T.keyed.inj (T.key a h) (e ▸ T.key a' h'))
theorem KeyT.isKey {a : α} (h : T.ok a) : WideAt.IsKeyLit (T.lit a) := T.keyed.key (T.key a h)

/-- what a datum says of each key -/
def Tells (T : KeyT P k α) (D : DataW Value) (f : α → Option Value) : Prop :=
  ∀ a, T.ok a → (f a = none ∧ Maps.has D (T.lit a) = false) ∨ ∃ v, f a = some v ∧ Maps.has D (T.lit a) = true ∧ ∀ z, D.atKey (T.lit a) z = .held v
/-- Block b is the call's own map of at most n entries, which is f. -/
def OMap (T : KeyT P k α) (w : World) (b n : Nat) (f : α → Option Value) : Prop := ∃ D : DataW Value, w.ownsMap P k Rv b n D ∧ Tells T D f
theorem OMap.made (T : KeyT P k α) (w : World) : OMap T (w.alloc (.map #[] 0)) w.heap.size 0 (fun _ => none) :=
  ⟨.map [], World.ownsMap_made _ _ _ _, fun _ _ => .inl ⟨rfl, rfl⟩⟩
theorem OMap.kept {w' : World} {row : Option Nat} (h : OMap T w b n f) (hg : w.grownBy w' row) (hne : some b ≠ row) : OMap T w' b n f := by
  obtain ⟨D, h1, h2⟩ := h
  exact ⟨D, h1.kept hg hne, h2⟩
theorem OMap.below {w' : World} (h : OMap T w b n f) (hb : Below w.heap.size w w') : OMap T w' b n f := by
  refine h.kept (row := none) ⟨hb.os, hb.tape, hb.output, hb.size, fun k hk _ => hb.block k hk⟩ (by simp)
theorem OMap.alloc (h : OMap T w b n f) (o : Obj) : OMap T (w.alloc o) b n f := h.kept (World.grownBy_alloc w o none) (by simp)
theorem OMap.lt (h : OMap T w b n f) : b < w.heap.size := by obtain ⟨D, h1, _⟩ := h; exact h1.lt
theorem OMap.congr {f' : α → Option Value} (h : OMap T w b n f) (he : ∀ a, T.ok a → f' a = f a) : OMap T w b n f' := by
  obtain ⟨D, h1, h2⟩ := h
  refine ⟨D, h1, fun a ha => ?_⟩
  rw [he a ha]
  exact h2 a ha
theorem OMap.look (h : OMap T w b n f) (ht : P.underlying t = some (.map k e)) {z : Value} (hz : (zeroValue e).run P w = .ok z w) (a : α) (ha : T.ok a) :
    (Instr.lookup t (.map (some b)) (T.enc a) false).run P w = .ok ((f a).getD z) w := by
  obtain ⟨D, h1, h2⟩ := h
  obtain ⟨v, ps, hrun, hv⟩ := h1.lookup T.keyed ht hz (zd := .held z) (zp := []) rfl (T.key a ha)
  rw [hrun]
  rcases h2 a ha with ⟨h3, h4⟩ | ⟨u, h3, _, h4⟩
  · rw [Maps.atKey_of_not_has h4] at hv
    have : v = z := by simp [Rv] at hv; exact hv.1
    rw [this, h3]
    rfl
  · rw [h4] at hv
    have : v = u := by simp [Rv] at hv; exact hv.1
    rw [this, h3]
    rfl
theorem OMap.look_ok (h : OMap T w b n f) (ht : P.underlying t = some (.map k e)) {z : Value} (hz : (zeroValue e).run P w = .ok z w) (a : α) (ha : T.ok a) :
    (Instr.lookup t (.map (some b)) (T.enc a) true).run P w = .ok (.tuple #[(f a).getD z, .bool (f a).isSome]) w := by
  obtain ⟨D, h1, h2⟩ := h
  obtain ⟨v, ps, hrun, hv⟩ := h1.look_ok T.keyed ht hz (zd := .held z) (zp := []) rfl (T.key a ha)
  rw [hrun]
  rcases h2 a ha with ⟨h3, h4⟩ | ⟨u, h3, h5, h4⟩
  · rw [Maps.atKey_of_not_has h4] at hv
    have : v = z := by simp [Rv] at hv; exact hv.1
    rw [this, h3, h4]
    rfl
  · rw [h4] at hv
    have : v = u := by simp [Rv] at hv; exact hv.1
    rw [this, h3, h5]
    rfl
theorem OMap.put [DecidableEq α] (h : OMap T w b n f) (ht : P.underlying t = some (.map k e)) (hn : n < maxLen) (a : α) (ha : T.ok a) (v : Value) :
    ∃ w', (Instr.mapUpdate t (.map (some b)) (T.enc a) v).run P w = .ok () w' ∧ OMap T w' b (n + 1) (fun x => if x = a then some v else f x) ∧ w.grownBy w' (some b) := by
  obtain ⟨D, h1, h2⟩ := h
  obtain ⟨w', hrun, h3, h4⟩ := h1.update T.keyed ht hn (T.key a ha) (val := v) (d := .held v) (ps := []) rfl
  refine ⟨w', hrun, ⟨_, h3, fun x hx => ?_⟩, h4⟩
  by_cases he : x = a
  · subst he
    exact .inr ⟨v, if_pos rfl, Maps.has_put_same h1.isMap (T.isKey hx) _, fun z => Maps.atKey_put_same h1.isMap (T.isKey hx) _ _⟩
  · have hne : T.lit x ≠ T.lit a := fun e => he (T.lit_inj hx ha e)
    show ((if x = a then some v else f x) = none ∧ _) ∨ _
    simp only [if_neg he, Maps.has_put_other hne]
    rcases h2 x hx with h5 | ⟨u, h5, h6, h7⟩
    · exact .inl h5
    · exact .inr ⟨u, h5, h6, fun z => (Maps.atKey_put_other hne _ _).trans (h7 z)⟩

/-- a range over the map: block r is the iterator; S says which keys are still to come -/
def ORange (T : KeyT P k α) (w : World) (b r n : Nat) (f : α → Option Value) (S : α → Bool) (cnt : Nat) : Prop :=
  ∃ (D : DataW Value) (left : Lit → Bool), w.ranges P k Rv b r n D left cnt ∧ Tells T D f ∧ ∀ a, T.ok a → left (T.lit a) = S a
theorem ORange.kept {w' : World} {row : Option Nat} {r cnt : Nat} {S : α → Bool} (h : ORange T w b r n f S cnt) (hg : w.grownBy w' row) (hb : some b ≠ row) (hr : some r ≠ row) : ORange T w' b r n f S cnt := by
  obtain ⟨D, left, h1, h2⟩ := h
  exact ⟨D, left, h1.kept hg hb hr, h2⟩
theorem ORange.below {w' : World} {r cnt : Nat} {S : α → Bool} (h : ORange T w b r n f S cnt) (hb : Below w.heap.size w w') : ORange T w' b r n f S cnt :=
  h.kept (row := none) ⟨hb.os, hb.tape, hb.output, hb.size, fun k hk _ => hb.block k hk⟩ (by simp) (by simp)
theorem ORange.congr {r cnt : Nat} {S S' : α → Bool} (h : ORange T w b r n f S cnt) (he : ∀ a, S' a = S a) : ORange T w b r n f S' cnt := by
  obtain ⟨D, left, h1, h2, h3⟩ := h
  exact ⟨D, left, h1, h2, fun a ha => (h3 a ha).trans (he a).symm⟩
theorem ORange.left_eq {r cnt : Nat} {S : α → Bool} (h : ORange T w b r n f S cnt) : w.rangeLeft b r = cnt := by
  obtain ⟨D, left, h1, _⟩ := h
  exact h1.left_eq
theorem ORange.owns {r cnt : Nat} {S : α → Bool} (h : ORange T w b r n f S cnt) : OMap T w b n f := by
  obtain ⟨D, left, h1, h2, _⟩ := h
  exact ⟨D, h1.owns, h2⟩
theorem ORange.lt {r cnt : Nat} {S : α → Bool} (h : ORange T w b r n f S cnt) : r < w.heap.size := by
  obtain ⟨D, left, h1, _⟩ := h
  exact h1.lt
theorem OMap.range (h : OMap T w b n f) (ht : P.underlying t = some (.map k e)) :
    ∃ w' cnt, (Instr.range t (.map (some b))).run P w = .ok (.pointer (some ⟨w.heap.size, 0, none⟩)) w' ∧ ORange T w' b w.heap.size n f (fun a => (f a).isSome) cnt ∧ w.grownBy w' none ∧ w'.heap.size = w.heap.size + 1 ∧ cnt ≤ n := by
  obtain ⟨D, h1, h2⟩ := h
  have hsz := h1.size_le
  obtain ⟨w', hrun, h3, h4, h5⟩ := h1.range T.keyed ht
  refine ⟨w', _, hrun, ⟨D, _, h3, h2, fun a ha => ?_⟩, h4, h5, hsz⟩
  rcases h2 a ha with ⟨h6, h7⟩ | ⟨v, h6, h7, _⟩
  · show _ = (f a).isSome
    rw [h7, h6]; rfl
  · show _ = (f a).isSome
    rw [h7, h6]; rfl
theorem ORange.next [DecidableEq α] {r cnt : Nat} {S : α → Bool} (h : ORange T w b r n f S cnt) (ty : TypeId) :
    (cnt = 0 ∧ (∀ a, T.ok a → S a = false) ∧ (Instr.next (.pointer (some ⟨r, 0, none⟩)) false ty).run P w = .ok (.tuple #[.bool false]) w) ∨
    ∃ a v w' cnt', T.ok a ∧ S a = true ∧ f a = some v ∧ (Instr.next (.pointer (some ⟨r, 0, none⟩)) false ty).run P w = .ok (.tuple #[.bool true, T.enc a, v]) w' ∧
      ORange T w' b r n f (fun x => S x && !decide (x = a)) cnt' ∧ cnt' < cnt ∧ w.grownBy w' (some r) ∧ w'.heap.size = w.heap.size ∧ (Instr.entry (.pointer (some ⟨r, 0, none⟩))).run P w' = .ok (.tuple #[T.enc a, v]) w' := by
  obtain ⟨D, left, h1, h2, h3⟩ := h
  rcases h1.next T.keyed ty with ⟨h4, h5, h6⟩ | ⟨key, v, kl, y, w', cnt', hk, hl, hv, hat, hrun, hrg, hlt, hgr, hsz, hen⟩
  · exact .inl ⟨h4, fun a ha => by rw [← h3 a ha]; exact h5 _, h6⟩
  · obtain ⟨a, ha, rfl⟩ := T.inv _ _ hk
    obtain rfl : T.lit a = kl := by have := T.key a ha; rw [hk] at this; exact (Option.some.inj this).symm
    have hy : y = (.held v, []) := by simp [Rv] at hv; exact hv.symm
    subst hy
    refine .inr ⟨a, v, w', cnt', ha, by rw [← h3 a ha]; exact hl, ?_, hrun, ⟨D, _, hrg, h2, fun x hx => ?_⟩, hlt, hgr, hsz, hen⟩
    · rcases h2 a ha with ⟨h7, h8⟩ | ⟨u, h7, _, h8⟩
      · have h9 := hat (.lit (.bool false))
        rw [Maps.atKey_of_not_has h8] at h9
        cases h9
      · have h9 := hat (.lit (.bool false))
        rw [h8] at h9
        injection h9 with h9
        rw [h7, h9]
    · show (left (T.lit x) && !(T.lit x).sameKey (T.lit a)) = _
      rw [h3 x hx]
      by_cases he : x = a
      · subst he
        show _ = (S x && !decide (x = x))
        rw [WideAt.sameKey_self (T.isKey hx), decide_eq_true rfl]
      · show _ = (S x && !decide (x = a))
        rw [Maps.sameKey_ne (fun e => he (T.lit_inj hx ha e)), decide_eq_false he]
end

section
variable {P : Program} {k t e : TypeId} {α : Type} {T : KeyT P k α} {w : World} {b n : Nat} {f : α → Option Value} {ops : Array Oper} {rest : List Oper} {o : Oper} {a : Act} {Q : Exit → Act → World → Prop}
/-- 'range m', for the walk -/
theorem wpList_range_o (hg : o.guard = none) (m : Operand) (t : TypeId) (hop : o.op = Op.range t m) (e : TypeId) (ht : P.underlying t = some (.map k e)) (hm : a.eval m = .map (some b)) (h : OMap T w b n f)
    (hK : ∀ w' cnt, ORange T w' b w.heap.size n f (fun a => (f a).isSome) cnt → w.grownBy w' none → w'.heap.size = w.heap.size + 1 → cnt ≤ n → wpList P ops Q rest (a.put o.dst (.pointer (some ⟨w.heap.size, 0, none⟩))) w') : wpList P ops Q (o :: rest) a w := by
  refine wpList_plain hg fun K' hK' => ?_
  obtain ⟨w', cnt, hrun, r1, r2, r3, r4⟩ := h.range ht
  unfold Oper.wp
  simp [execOp, hop, hm, hrun, Result.andThen]
  exact hK' _ _ (hK w' cnt r1 r2 r3 r4)
/-- one step of a range over a map, for the walk -/
theorem wpList_next_o [DecidableEq α] {r cnt : Nat} {S : α → Bool} (hg : o.guard = none) (it : Operand) (hop : o.op = Op.next it false) (hit : a.eval it = .pointer (some ⟨r, 0, none⟩)) (h : ORange T w b r n f S cnt)
    (hDone : cnt = 0 → (∀ x, T.ok x → S x = false) → wpList P ops Q rest (a.put o.dst (.tuple #[.bool false])) w)
    (hMore : ∀ x v w' cnt', T.ok x → S x = true → f x = some v → ORange T w' b r n f (fun y => S y && !decide (y = x)) cnt' → cnt' < cnt → w.grownBy w' (some r) → w'.heap.size = w.heap.size →
      (Instr.entry (.pointer (some ⟨r, 0, none⟩))).run P w' = .ok (.tuple #[T.enc x, v]) w' → wpList P ops Q rest (a.put o.dst (.tuple #[.bool true, T.enc x, v])) w') : wpList P ops Q (o :: rest) a w := by
  refine wpList_plain hg fun K' hK' => ?_
  unfold Oper.wp
  rcases h.next o.type with ⟨h0, hl, hrun⟩ | ⟨x, v, w', cnt', h1, h2, h3, hrun, h4, h5, h6, h7, h8⟩
  · simp [execOp, hop, hit, hrun, Result.andThen]
    exact hK' _ _ (hDone h0 hl)
  · simp [execOp, hop, hit, hrun, Result.andThen]
    exact hK' _ _ (hMore x v w' cnt' h1 h2 h3 h4 h5 h6 h7 h8)
end
end Go.Proofs.YtfiilbdkhelhgaaDoor

namespace Go.Proofs.YtfiilbdkhelhgaaDoor
open Go.RowKit

/-- a version's numbers are ints -/
def okI (x : Int) : Prop := (Lit.int .i64 x).wf = true
def okMod (m : Mod) : Prop := m.1.length ≤ maxLen ∧ okI m.2.1 ∧ okI m.2.2.1 ∧ okI m.2.2.2
def litsMod (m : Mod) : List Lit := [.string m.1, .int .i64 m.2.1, .int .i64 m.2.2.1, .int .i64 m.2.2.2]
def litMod (m : Mod) : Lit := .string (keyBytes (litsMod m))
theorem wideMod : (match Tryd.prog.underlying 26 with | some (.array _ _) | some (.struct _) => true | _ => false) = true := by kernel_rfl
theorem keyTypeMod : Tryd.prog.keyType 26 = true := by kernel_rfl
theorem formedMod (m : Mod) : (modV m).formed Tryd.prog 26 = true := by kernel_rfl
theorem fuelK : ∃ d, Tryd.prog.types.size + 1 = d + 3 := ⟨Tryd.prog.types.size - 2, of_decide_eq_true (by kernel_rfl)⟩
theorem cellsM : Tryd.prog.cellsOf 26 = 4 := by kernel_rfl
theorem cellsV : Tryd.prog.cellsOf 24 = 3 := by kernel_rfl
theorem cellsS : Tryd.prog.cellsOf 9 = 1 := by kernel_rfl
theorem cellsI : Tryd.prog.cellsOf 3 = 1 := by kernel_rfl
theorem kInt (d : Nat) (x : Int) (h : okI x) : Tryd.prog.keyLits (d + 1) 3 [.int .i64 x] = some [.int .i64 x] := by
  unfold okI at h
  simp [Program.keyLits, Tryd.underlying3, h]
theorem kStr (d : Nat) (s : List UInt8) (h : s.length ≤ maxLen) : Tryd.prog.keyLits (d + 1) 9 [.string ⟨s.toArray⟩] = some [.string s] := by
  have hs : (⟨s.toArray⟩ : ByteArray).size ≤ maxLen := by simpa [ByteArray.size] using h
  simp [Program.keyLits, Tryd.underlying9, hs]
theorem kVer (d : Nat) (x y z : Int) (h1 : okI x) (h2 : okI y) (h3 : okI z) : Tryd.prog.keyLits (d + 2) 24 [.int .i64 x, .int .i64 y, .int .i64 z] = some [.int .i64 x, .int .i64 y, .int .i64 z] := by
  unfold Program.keyLits
  simp only [Tryd.underlying24]
  rw [if_pos ⟨by rw [cellsV]; rfl, by decide +kernel⟩]
  simp [cellsI, kInt _ _ h1, kInt _ _ h2, kInt _ _ h3]
theorem kMod (d : Nat) (m : Mod) (h : okMod m) : Tryd.prog.keyLits (d + 3) 26 (modV m).cells.toList = some (litsMod m) := by
  obtain ⟨h0, h1, h2, h3⟩ := h
  show Tryd.prog.keyLits (d + 3) 26 [.string ⟨m.1.toArray⟩, .int .i64 m.2.1, .int .i64 m.2.2.1, .int .i64 m.2.2.2] = _
  unfold Program.keyLits
  simp only [Tryd.underlying26]
  rw [if_pos ⟨by rw [cellsM]; rfl, by decide +kernel⟩]
  simp [cellsS, cellsV, kStr _ _ h0, kVer _ _ _ _ h1 h2 h3, litsMod]
theorem kInt_inv {d : Nat} {v : Value} {L : List Lit} (h : Tryd.prog.keyLits (d + 1) 3 [v] = some L) : ∃ x, okI x ∧ v = .int .i64 x := by
  unfold Program.keyLits at h
  simp only [Tryd.underlying3] at h
  cases v <;> simp at h
  obtain ⟨⟨rfl, h2⟩, _⟩ := h
  exact ⟨_, h2, rfl⟩
theorem kStr_inv {d : Nat} {v : Value} {L : List Lit} (h : Tryd.prog.keyLits (d + 1) 9 [v] = some L) : ∃ s : List UInt8, s.length ≤ maxLen ∧ v = .string ⟨s.toArray⟩ := by
  unfold Program.keyLits at h
  simp only [Tryd.underlying9] at h
  cases v with
  | string b =>
    simp only at h
    split at h
    · rename_i hb
      exact ⟨b.data.toList, by rw [Array.length_toList]; exact hb, rfl⟩
    · cases h
  | _ => cases h
theorem mapM3 {α β : Type} {g : α → Option β} {a b c : α} {L : List β} (h : [a, b, c].mapM g = some L) : ∃ x y z, g a = some x ∧ g b = some y ∧ g c = some z := by
  cases h1 : g a with
  | none => simp [h1] at h
  | some x =>
    cases h2 : g b with
    | none => simp [h1, h2] at h
    | some y =>
      cases h3 : g c with
      | none => simp [h1, h2, h3] at h
      | some z => exact ⟨x, y, z, rfl, rfl, rfl⟩
theorem mapM2 {α β : Type} {g : α → Option β} {a b : α} {L : List β} (h : [a, b].mapM g = some L) : ∃ x y, g a = some x ∧ g b = some y := by
  cases h1 : g a with
  | none => simp [h1] at h
  | some x =>
    cases h2 : g b with
    | none => simp [h1, h2] at h
    | some y => exact ⟨x, y, rfl, rfl⟩
theorem kVer_inv {d : Nat} {a b c : Value} {L : List Lit} (h : Tryd.prog.keyLits (d + 2) 24 [a, b, c] = some L) : ∃ x y z, (okI x ∧ okI y ∧ okI z) ∧ a = .int .i64 x ∧ b = .int .i64 y ∧ c = .int .i64 z := by
  unfold Program.keyLits at h
  simp only [Tryd.underlying24] at h
  rw [if_pos ⟨by rw [cellsV]; rfl, by decide +kernel⟩] at h
  obtain ⟨L', h', _⟩ := Option.map_eq_some_iff.1 h
  obtain ⟨l1, l2, l3, h1, h2, h3⟩ := mapM3 h'
  change Tryd.prog.keyLits (d + 1) 3 (List.take (Tryd.prog.cellsOf 3) [a, b, c]) = _ at h1
  change Tryd.prog.keyLits (d + 1) 3 (List.take (Tryd.prog.cellsOf 3) [b, c]) = _ at h2
  change Tryd.prog.keyLits (d + 1) 3 (List.take (Tryd.prog.cellsOf 3) [c]) = _ at h3
  rw [cellsI] at h1 h2 h3
  obtain ⟨x, hx, rfl⟩ := kInt_inv h1
  obtain ⟨y, hy, rfl⟩ := kInt_inv h2
  obtain ⟨z, hz, rfl⟩ := kInt_inv h3
  exact ⟨x, y, z, ⟨hx, hy, hz⟩, rfl, rfl, rfl⟩
theorem list4 {α : Type} {l : List α} (h : l.length = 4) : ∃ a b c e, l = [a, b, c, e] := by
  match l, h with
  | [a, b, c, e], _ => exact ⟨a, b, c, e, rfl⟩
set_option maxRecDepth 100000 in
theorem kMod_inv {d : Nat} {xs : List Value} {L : List Lit} (h : Tryd.prog.keyLits (d + 3) 26 xs = some L) : ∃ m : Mod, okMod m ∧ xs = (modV m).cells.toList := by
  by_cases hl : xs.length = 4
  · obtain ⟨a, b, c, e, rfl⟩ := list4 hl
    · skip
      unfold Program.keyLits at h
      simp only [Tryd.underlying26] at h
      rw [if_pos ⟨by rw [cellsM]; rfl, by decide +kernel⟩] at h
      obtain ⟨L', h', _⟩ := Option.map_eq_some_iff.1 h
      obtain ⟨l1, l2, h1, h2⟩ := mapM2 h'
      change Tryd.prog.keyLits (d + 2) 9 (List.take (Tryd.prog.cellsOf 9) [a, b, c, e]) = _ at h1
      change Tryd.prog.keyLits (d + 2) 24 (List.take (Tryd.prog.cellsOf 24) [b, c, e]) = _ at h2
      rw [cellsS] at h1
      rw [cellsV] at h2
      obtain ⟨s, hs, rfl⟩ := kStr_inv h1
      obtain ⟨x, y, z, ⟨hx, hy, hz⟩, rfl, rfl, rfl⟩ := kVer_inv h2
      exact ⟨(s, x, y, z), ⟨hs, hx, hy, hz⟩, rfl⟩
  · unfold Program.keyLits at h
    simp only [Tryd.underlying26] at h
    rw [if_neg (fun hh => hl (hh.1.trans cellsM))] at h
    cases h
set_option maxRecDepth 100000 in
theorem keyMod_law : Maps.Keyed Tryd.prog 26 := Maps.Keyed.of_law (deep_law_gate (by kernel_rfl) (of_decide_eq_true (by kernel_rfl)) (of_decide_eq_true (by kernel_rfl)) keyTypeMod wideMod)
set_option maxRecDepth 100000 in
theorem kMod_top {v : Value} {l : Lit} (h : keyOf Tryd.prog 26 v = some l) : ∃ (xs : Array Value) (L : List Lit), v = .agg xs ∧ Tryd.prog.keyLits (Tryd.prog.types.size + 1) 26 xs.toList = some L := by
  obtain ⟨xs, L, h1, h2, _⟩ := keyOf_top wideMod h
  exact ⟨xs, L, h1, h2⟩
set_option maxRecDepth 100000 in
/-- modules as keys -/
def KM : KeyT Tryd.prog 26 Mod where
  enc := modV
  ok := okMod
  lit := litMod
  keyed := keyMod_law
  key := fun m h => by
    have hu : ∃ fs, Tryd.prog.underlying 26 = some (.struct fs) := ⟨_, Tryd.underlying26⟩
    obtain ⟨fs, hu⟩ := hu
    obtain ⟨d, hd⟩ := fuelK
    unfold keyOf
    rw [hu]
    simp only
    rw [keyTypeMod, formedMod, Bool.and_self, if_pos rfl, hd, kMod d m h]
    rfl
  inv := fun v l h => by
    obtain ⟨xs, L, rfl, h1⟩ := kMod_top h
    obtain ⟨d, hd⟩ := fuelK
    rw [hd] at h1
    obtain ⟨m, hm, he⟩ := kMod_inv h1
    refine ⟨m, hm, ?_⟩
    show Value.agg xs = _
    have : xs = (modV m).cells := Array.ext' he
    rw [this]
    rfl
  encInj := fun a b h => by
    obtain ⟨p, x, y, z⟩ := a
    obtain ⟨p', x', y', z'⟩ := b
    simp [modV] at h
    simp [h]
/-- strings as keys -/
def KS : KeyT Tryd.prog 9 (List UInt8) where
  enc := fun s => .string ⟨s.toArray⟩
  ok := fun s => s.length ≤ maxLen
  lit := fun s => .string s
  keyed := Maps.string_keyed Tryd.underlying9
  key := fun s h => by
    have := WideMaps.keyOf_string_mk (P := Tryd.prog) Tryd.underlying9 (s := ⟨s.toArray⟩) (by simpa [ByteArray.size] using h)
    simpa using this
  inv := fun v l h => by
    unfold keyOf mapKey at h
    simp only [Tryd.underlying9] at h
    cases v with
    | string b =>
      simp only at h
      split at h
      · rename_i hb
        exact ⟨b.data.toList, by rw [Array.length_toList]; exact hb, rfl⟩
      · cases h
    | _ => cases h
  encInj := fun a b h => by simpa using h
end Go.Proofs.YtfiilbdkhelhgaaDoor
