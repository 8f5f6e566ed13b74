/- What the claim needs of: Open. -/
import Derived.Test.YthcgihgajdjfoaaGreatDoorRows
import Derived.Test.YthcgihgajdjfoaaGreatDoorV7
import Derived.Deep.Slices
import Derived.OpenShut
namespace Go.Proofs.YthcgihgajdjfoaaGreatDoor
open Go.ChangeShapes Go.WideShapes Go.RowKit Go.Deep
theorem bulk_one {H : Type} (d : DataW H) : 1 ≤ Rows.uptoBulk d := by
 cases d with
 | lit l => cases l <;> simp [Rows.uptoBulk]
 | nil => simp [Rows.uptoBulk]
 | ptr d => simp [Rows.uptoBulk]
 | slice elems spare => simp [Rows.uptoBulk]
 | agg parts => simp [Rows.uptoBulk]
 | iface t d => simp [Rows.uptoBulk]
 | map entries => simp [Rows.uptoBulk]
 | held h => simp [Rows.uptoBulk]
theorem bulk_part {H : Type} {d : DataW H} {l : List (DataW H)} (h : d ∈ l) : Rows.uptoBulk d ≤ Rows.uptoBulkAll l := by
 induction l with
 | nil => cases h
 | cons x r ih =>
   simp only [Rows.uptoBulkAll]
   cases List.mem_cons.1 h with
   | inl e => subst e; omega
   | inr e => have := ih e; omega
theorem bulk_length {H : Type} (l : List (DataW H)) : l.length ≤ Rows.uptoBulkAll l := by
 induction l with
 | nil => simp [Rows.uptoBulkAll]
 | cons x r ih => have := bulk_one x; simp only [Rows.uptoBulkAll, List.length_cons]; omega
def Opens {α : Type} (P : Program) (w : World) (B : Nat) (t : TypeId) (enc : α → List Value) (OK : α → Prop) : Prop :=
 ∀ (H : Type) (enc0 : TypeId × Value → H) (sp : Nat → Bool) (held : Bool) (fuel : Nat) (cs : List Value) (x : DataW H × List MemPlace), DataW.trod enc0 P w 0 sp held fuel t cs = some x → Rows.uptoBulk x.1 ≤ B → ∃ y, cs = enc y ∧ OK y
section
variable {P : Program} {w : World} {B : Nat}
theorem opens_int {t : TypeId} {k : IntKind} (ht : P.underlying t = some (.int k)) : Opens P w B t (fun n : Int => [.int k n]) (fun n => (Lit.int k n).wf = true) := by
 intro H enc0 sp held fuel cs x h _
 obtain ⟨n, rfl, _, hw⟩ := DataW.trod_int ht h
 exact ⟨n, rfl, hw⟩
theorem opens_string {t : TypeId} (ht : P.underlying t = some .string) : Opens P w B t (fun s : List UInt8 => [.string ⟨s.toArray⟩]) (fun s => s.length ≤ B) := by
 intro H enc0 sp held fuel cs x h hB
 obtain ⟨s, rfl, rfl, _⟩ := DataW.trod_string ht h
 refine ⟨s.data.toList, rfl, ?_⟩
 simp only [Rows.uptoBulk] at hB
 omega
theorem xs_split {H : Type} {xs : List (DataW H × List MemPlace)} {n : Nat} (h : xs.length = n) : ∀ i, ∀ hi : i < n, xs[i]? = some (xs[i]'(by omega)) := fun i hi => List.getElem?_eq_getElem (by omega)
theorem bulk_agg {H : Type} {xs : List (DataW H × List MemPlace)} {i : Nat} {y : DataW H × List MemPlace} (h : xs[i]? = some y) (hB : Rows.uptoBulk (.agg (xs.map (·.1))) ≤ B) : Rows.uptoBulk y.1 ≤ B := by
 have hm : y.1 ∈ xs.map (·.1) := List.mem_map.2 ⟨y, List.mem_of_getElem? h, rfl⟩
 have := bulk_part hm
 simp only [Rows.uptoBulk] at hB
 omega
variable {α0 α1 α2 : Type} {enc0 : α0 → List Value} {enc1 : α1 → List Value} {enc2 : α2 → List Value} {OK0 : α0 → Prop} {OK1 : α1 → Prop} {OK2 : α2 → Prop}
theorem opens_struct2 {t : TypeId} {f0 f1 : Field} (ht : P.underlying t = some (.struct #[f0, f1])) (o0 : f0.offset = 0) (o1 : f1.offset = P.cellsOf f0.type) (hC : P.cellsOf t = P.cellsOf f0.type + P.cellsOf f1.type)
  (h0 : Opens P w B f0.type enc0 OK0) (h1 : Opens P w B f1.type enc1 OK1) : Opens P w B t (fun y : α0 × α1 => enc0 y.1 ++ enc1 y.2) (fun y => OK0 y.1 ∧ OK1 y.2) := by
 intro H en sp held fuel cs x h hB
 obtain ⟨xs, n, _, rfl, hl, hx, hf⟩ := DataW.trod_struct ht h
 have hx' : xs.length = 2 := hx
 have g0 := hf 0 f0 rfl
 have g1 := hf 1 f1 rfl
 rw [xs_split hx' 0 (by omega)] at g0
 rw [xs_split hx' 1 (by omega)] at g1
 obtain ⟨y0, e0, k0⟩ := h0 _ _ _ _ _ _ _ g0 (bulk_agg (xs_split hx' 0 (by omega)) hB)
 obtain ⟨y1, e1, k1⟩ := h1 _ _ _ _ _ _ _ g1 (bulk_agg (xs_split hx' 1 (by omega)) hB)
 refine ⟨(y0, y1), ?_, k0, k1⟩
 show cs = enc0 y0 ++ enc1 y1
 rw [← e0, ← e1, o0, o1, List.drop_zero]
 rw [List.take_of_length_le (l := cs.drop _) (by simp; omega)]
 exact (List.take_append_drop _ _).symm
theorem opens_struct3 {t : TypeId} {f0 f1 f2 : Field} (ht : P.underlying t = some (.struct #[f0, f1, f2])) (o0 : f0.offset = 0) (o1 : f1.offset = P.cellsOf f0.type) (o2 : f2.offset = P.cellsOf f0.type + P.cellsOf f1.type) (hC : P.cellsOf t = P.cellsOf f0.type + P.cellsOf f1.type + P.cellsOf f2.type)
  (h0 : Opens P w B f0.type enc0 OK0) (h1 : Opens P w B f1.type enc1 OK1) (h2 : Opens P w B f2.type enc2 OK2) : Opens P w B t (fun y : α0 × α1 × α2 => enc0 y.1 ++ enc1 y.2.1 ++ enc2 y.2.2) (fun y => OK0 y.1 ∧ OK1 y.2.1 ∧ OK2 y.2.2) := by
 intro H en sp held fuel cs x h hB
 obtain ⟨xs, n, _, rfl, hl, hx, hf⟩ := DataW.trod_struct ht h
 have hx' : xs.length = 3 := hx
 have g0 := hf 0 f0 rfl
 have g1 := hf 1 f1 rfl
 have g2 := hf 2 f2 rfl
 rw [xs_split hx' 0 (by omega)] at g0
 rw [xs_split hx' 1 (by omega)] at g1
 rw [xs_split hx' 2 (by omega)] at g2
 obtain ⟨y0, e0, k0⟩ := h0 _ _ _ _ _ _ _ g0 (bulk_agg (xs_split hx' 0 (by omega)) hB)
 obtain ⟨y1, e1, k1⟩ := h1 _ _ _ _ _ _ _ g1 (bulk_agg (xs_split hx' 1 (by omega)) hB)
 obtain ⟨y2, e2, k2⟩ := h2 _ _ _ _ _ _ _ g2 (bulk_agg (xs_split hx' 2 (by omega)) hB)
 refine ⟨(y0, y1, y2), ?_, k0, k1, k2⟩
 show cs = enc0 y0 ++ enc1 y1 ++ enc2 y2
 rw [← e0, ← e1, ← e2, o0, o1, o2, List.drop_zero]
 rw [List.take_of_length_le (l := cs.drop (P.cellsOf f0.type + P.cellsOf f1.type)) (by simp; omega), ← List.take_add, List.take_append_drop]
abbrev SlD (α : Type) := Option Addr × Nat × List α
def encSl {α : Type} (y : SlD α) : List Value := [.slice y.1 y.2.2.length y.2.1]
def SlOk {α : Type} (w : World) (B k : Nat) (enc : α → List Value) (OK : α → Prop) (y : SlD α) : Prop :=
 Sl w w.heap.size k enc y.1 y.2.2 ∧ (∀ z ∈ y.2.2, OK z) ∧ y.2.2.length ≤ y.2.1 ∧ y.2.2.length ≤ B
theorem opens_slice {α : Type} {enc : α → List Value} {OK : α → Prop} {t e : TypeId} {k : Nat} (ht : P.underlying t = some (.slice e)) (hC : P.cellsOf e = k) (h0 : 0 < k) (hk : ∀ y, (enc y).length = k) (he : Opens P w B e enc OK) :
  Opens P w B t (encSl (α := α)) (SlOk w B k enc OK) := by
 intro H en sp held fuel cs x h hB
 rcases open_slice ht h with ⟨rfl, rfl⟩ | ⟨a, len, cap, m, n, D, Pl, rfl, _, hl, hm, hmm, rfl, hi⟩
 ·exact ⟨(none, 0, []), rfl, .inl rfl, by simp, Nat.le_refl _, Nat.zero_le _⟩
 ·have hlm : len ≤ m := by rw [hmm]; split <;> omega
  have hb1 : len ≤ B := by
   have h1 := bulk_length ((List.range len).map D)
   simp only [Rows.uptoBulk] at hB
   simp at h1
   omega
  have each : ∀ i, i < len → ∃ y, w.cells? 0 (a.add (i * k)) k = some (enc y) ∧ OK y := by
   intro i hil
   obtain ⟨cs', h1, h2⟩ := hi i (by omega)
   rw [hC] at h1
   have hbd : Rows.uptoBulk (D i) ≤ B := by
    have hm : D i ∈ (List.range len).map D := List.mem_map.2 ⟨i, List.mem_range.2 hil, rfl⟩
    have := bulk_part hm
    simp only [Rows.uptoBulk] at hB
    omega
   obtain ⟨y, rfl, hy⟩ := he _ _ _ _ _ _ _ h2 hbd
   exact ⟨y, h1, hy⟩
  have hch : ∃ f : Fin len → α, ∀ i : Fin len, w.cells? 0 (a.add (i.1 * k)) k = some (enc (f i)) ∧ OK (f i) := ⟨fun i => (each i.1 i.2).choose, fun i => (each i.1 i.2).choose_spec⟩
  obtain ⟨f, hf⟩ := hch
  have hlen : (List.ofFn f).length = len := by simp
  refine ⟨(some a, cap, List.ofFn f), by simp [encSl], ?_, ?_, by show (List.ofFn f).length ≤ cap; omega, by show (List.ofFn f).length ≤ B; omega⟩
  ·show Sl w w.heap.size k enc (some a) (List.ofFn f)
   rcases Nat.eq_zero_or_pos len with hz | hpos
   ·exact .inl (List.eq_nil_of_length_eq_zero (by omega))
   ·
    have hcell : ∀ i (hi : i < len) j v, (enc (f ⟨i, hi⟩))[j]? = some v → w.cell? (a.add (i * k + j)) = some v := by
     intro i hi j v hv
     obtain ⟨_, _, hat⟩ := World.cells?_some (hf ⟨i, hi⟩).1
     have hj : j < k := by rw [← hk (f ⟨i, hi⟩)]; exact (List.getElem?_eq_some_iff.1 hv).1
     have := hat j hj
     rw [hv, add_add] at this
     exact this
    have h00 : ∃ v, (enc (f ⟨0, hpos⟩))[0]? = some v := ⟨_, List.getElem?_eq_getElem (by rw [hk]; exact h0)⟩
    obtain ⟨v0, hv0⟩ := h00
    have hc0 := hcell 0 hpos 0 v0 hv0
    have hsp : a.spot = none := by
     cases hs : a.spot with
     | none => rfl
     | some q =>
       exfalso
       rw [show 0 * k + 0 = 0 by omega] at hc0
       have ea : a.add 0 = a := by simp [Addr.add]
       rw [ea] at hc0
       unfold World.cell? at hc0
       split at hc0
       ·rw [hs] at hc0; simp at hc0
       ·cases hc0
    obtain ⟨b, off, spot⟩ := a
    simp only at hsp
    subst hsp
    refine .inr ⟨b, off, rfl, ?_, fun i hi j v hv => ?_⟩
    ·have := World.block_lt_of_cell? w _ hc0
     simpa [Addr.add] using this
    ·have hi' : i < len := by omega
     have := hcell i hi' j v (by simpa using hv)
     rw [Addr.add_lit] at this
     rw [← Nat.add_assoc] at this
     exact this
  ·intro z hz
   obtain ⟨i, rfl⟩ := List.mem_ofFn.1 hz
   exact (hf i).2
end
end Go.Proofs.YthcgihgajdjfoaaGreatDoor
