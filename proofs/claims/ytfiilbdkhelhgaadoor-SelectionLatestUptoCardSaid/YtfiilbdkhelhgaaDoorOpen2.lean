/- What came in, opened: modules, manifests. -/
import Derived.Test.YtfiilbdkhelhgaaDoorOpen
import Derived.Test.YtfiilbdkhelhgaaDoorG1
import Derived.Test.YtfiilbdkhelhgaaDoorWS1
namespace Go.Proofs.YtfiilbdkhelhgaaDoor
open Go.ChangeShapes Go.WideShapes Go.RowKit Go.Deep

theorem Opens.to {α β : Type} {P : Program} {w : World} {B : Nat} {t : TypeId} {enc : α → List Value} {OK : α → Prop} {enc' : β → List Value} {OK' : β → Prop} (h : Opens P w B t enc OK) (f : α → β) (he : ∀ y, enc y = enc' (f y)) (ho : ∀ y, OK y → OK' (f y)) : Opens P w B t enc' OK' := by
  intro H en sp held fuel cs x hx hB
  obtain ⟨y, rfl, hy⟩ := h H en sp held fuel cs x hx hB
  exact ⟨f y, he y, ho y hy⟩
theorem opens_version (w : World) (B : Nat) : Opens Tryd.prog w B 24 (fun y : Int × Int × Int => [.int .i64 y.1, .int .i64 y.2.1, .int .i64 y.2.2]) (fun y => okI y.1 ∧ okI y.2.1 ∧ okI y.2.2) :=
  (opens_struct3 Tryd.underlying24 rfl (by kernel_rfl) (by kernel_rfl) (by kernel_rfl) (opens_int Tryd.underlying3) (opens_int Tryd.underlying3) (opens_int Tryd.underlying3)).to id (fun _ => rfl) (fun _ h => h)
theorem opens_module (w : World) (B : Nat) : Opens Tryd.prog w B 26 encM (fun m => m.1.length ≤ B ∧ okI m.2.1 ∧ okI m.2.2.1 ∧ okI m.2.2.2) :=
  (opens_struct2 Tryd.underlying26 rfl (by kernel_rfl) (by kernel_rfl) (opens_string Tryd.underlying9) (opens_version w B)).to id (fun _ => rfl) (fun _ h => h)
theorem opens_modules (w : World) (B : Nat) : Opens Tryd.prog w B 27 (encSl (α := Mod)) (SlOk w B 4 encM (fun m => m.1.length ≤ B ∧ okI m.2.1 ∧ okI m.2.2.1 ∧ okI m.2.2.2)) :=
  opens_slice Tryd.underlying27 (by kernel_rfl) (by decide) encM_len (opens_module w B)
/-- a module that came in -/
def inM (B : Nat) (m : Mod) : Prop := m.1.length ≤ B ∧ okI m.2.1 ∧ okI m.2.2.1 ∧ okI m.2.2.2
/-- a manifest that came in -/
def inW (w : World) (B : Nat) (y : ManW) : Prop := inM B y.1 ∧ SlOk w B 4 encM (inM B) y.2
theorem opens_manifest (w : World) (B : Nat) : Opens Tryd.prog w B 29 encW (inW w B) :=
  (opens_struct2 Tryd.underlying29 rfl (by kernel_rfl) (by kernel_rfl) (opens_module w B) (opens_modules w B)).to id (fun _ => rfl) (fun _ h => h)
theorem opens_manifests (w : World) (B : Nat) : Opens Tryd.prog w B 22 (encSl (α := ManW)) (SlOk w B 5 encW (inW w B)) :=
  opens_slice Tryd.underlying22 (by kernel_rfl) (by decide) encW_len (opens_manifest w B)
section
variable {H : Type} {en : TypeId × Value → H} {r : Go.Reach} {b0 : Nat} {sp : Nat → Bool} {held : Bool} {v : Value} {d : DataW H} {p : List MemPlace} {w : World}
set_option maxRecDepth 100000 in
/-- a slice that came in, by value -/
theorem open_sl {α : Type} {t e : TypeId} {B k : Nat} {enc : α → List Value} {OK : α → Prop} (ht : Tryd.prog.underlying t = some (.slice e)) (ho : Opens Tryd.prog w B t (encSl (α := α)) (SlOk w B k enc OK)) (hv : Value.okWide Tryd.prog w r b0 t v) (h : DataW.Trod en Tryd.prog w 0 sp held t v d p) (hB : Rows.uptoBulk d ≤ B) :
    ∃ A c l, v = .slice A l.length c ∧ Sl w w.heap.size k enc A l ∧ (∀ y ∈ l, OK y) ∧ l.length ≤ c ∧ l.length ≤ B := by
  obtain ⟨a, len, cap, rfl⟩ := okWide_slice ht hv
  obtain ⟨fuel, h⟩ := h
  obtain ⟨⟨A, c, l⟩, e, h1, h2, h3, h4⟩ := ho _ _ _ _ _ _ _ h hB
  simp [Value.cells, encSl] at e
  obtain ⟨e1, e2, e3⟩ := e
  exact ⟨A, c, l, by rw [e1, e2, e3], h1, h2, h3, h4⟩
set_option maxRecDepth 100000 in
/-- a struct that came in, by value -/
theorem open_st {α : Type} {t : TypeId} {fs : Array Field} {B : Nat} {enc : α → List Value} {OK : α → Prop} (ht : Tryd.prog.underlying t = some (.struct fs)) (ho : Opens Tryd.prog w B t enc OK) (hv : Value.okWide Tryd.prog w r b0 t v) (h : DataW.Trod en Tryd.prog w 0 sp held t v d p) (hB : Rows.uptoBulk d ≤ B) :
    ∃ y, v = .agg (enc y).toArray ∧ OK y := by
  obtain ⟨cs, rfl, _⟩ := okWide_struct ht hv
  obtain ⟨fuel, h⟩ := h
  obtain ⟨y, e, hy⟩ := ho _ _ _ _ _ _ _ h hB
  have e' : cs.toList = enc y := e
  exact ⟨y, by rw [← e'], hy⟩
end
theorem bulk_of {H : Type} {ds : List (DataW H)} (hk : Rows.uptoSmall H ds = true) : Rows.uptoBulkAll ds ≤ 1048576 := of_decide_eq_true hk
end Go.Proofs.YtfiilbdkhelhgaaDoor
