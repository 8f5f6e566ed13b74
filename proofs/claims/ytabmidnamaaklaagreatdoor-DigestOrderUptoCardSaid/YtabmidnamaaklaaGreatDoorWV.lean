/- Walks: the digests of several releases (digest.List). -/
import Derived.Test.YtabmidnamaaklaaGreatDoorWU
import Derived.Test.YtabmidnamaaklaaGreatDoorPI
namespace Go.Proofs.YtabmidnamaaklaaGreatDoor
open Go.RowKit Go.Sort

/-- a release that came in: its data and where its slices lie -/
structure RelA where
  m : Mod
  A : Option Addr
  c : Nat
  l : List Mod
  A' : Option Addr
  c' : Nat
  s : List Src2
instance : Inhabited RelA := ⟨⟨default, none, 0, [], none, 0, []⟩⟩
def RelA.rel (r : RelA) : Rel := (r.m, r.l, r.s)
def encR (r : RelA) : List Value := [.string ⟨r.m.1.toArray⟩, .int .i64 r.m.2.1, .int .i64 r.m.2.2.1, .int .i64 r.m.2.2.2, .slice r.A r.l.length r.c, .slice r.A' r.s.length r.c']
theorem encR_len (r : RelA) : (encR r).length = 6 := rfl
structure RelOk (w : World) (r : RelA) : Prop where
  hA : Sl w w.heap.size 4 encM r.A r.l
  hS : Sl w w.heap.size 2 encT r.A' r.s
  hl : r.l.length ≤ 1099511627776
  hsl : r.s.length ≤ 1099511627776
  hm : ∀ x ∈ r.m :: r.l, x.1.length ≤ 1099511627776
  hs : ∀ x ∈ r.s, x.1.length ≤ 1099511627776 ∧ x.2.length ≤ maxLen
theorem RelOk.below {w w' : World} {r : RelA} (h : RelOk w r) (hb : Below w.heap.size w w') : RelOk w' r := ⟨(h.hA.below hb).more hb.size, (h.hS.below hb).more hb.size, h.hl, h.hsl, h.hm, h.hs⟩
theorem Sl.rel {w : World} {B : Nat} {A : Option Addr} {l : List RelA} (h : Sl w B 6 encR A l) {i : Nat} (hi : i < l.length) :
    ∃ b off, A = some ⟨b, off, none⟩ ∧ b < B ∧ w.cell? ⟨b, off + i * 6, none⟩ = some (.string ⟨(l[i]).m.1.toArray⟩) ∧ w.cell? ⟨b, off + i * 6 + 1, none⟩ = some (.int .i64 (l[i]).m.2.1) ∧
      w.cell? ⟨b, off + i * 6 + 2, none⟩ = some (.int .i64 (l[i]).m.2.2.1) ∧ w.cell? ⟨b, off + i * 6 + 3, none⟩ = some (.int .i64 (l[i]).m.2.2.2) ∧
      w.cell? ⟨b, off + i * 6 + 4, none⟩ = some (.slice (l[i]).A (l[i]).l.length (l[i]).c) ∧ w.cell? ⟨b, off + i * 6 + 5, none⟩ = some (.slice (l[i]).A' (l[i]).s.length (l[i]).c') := by
  obtain ⟨b, off, e, hb, hc⟩ := h.at_ hi
  exact ⟨b, off, e, hb, by simpa using hc 0 _ rfl, hc 1 _ rfl, hc 2 _ rfl, hc 3 _ rfl, hc 4 _ rfl, hc 5 _ rfl⟩
theorem relA_any (r : RelA) (w : World) (h : RelOk w r) (hG : Glob w) :
    Calls Tryz.prog 19 #[.agg #[.string ⟨r.m.1.toArray⟩, .int .i64 r.m.2.1, .int .i64 r.m.2.2.1, .int .i64 r.m.2.2.2, .slice r.A r.l.length r.c, .slice r.A' r.s.length r.c']] w fun e w' => e = .returned (.tuple #[.string ⟨(rtext r.rel).toArray⟩, .int .i64 (rerr r.rel)]) ∧ Below w.heap.size w w' :=
  Release_any r.m r.A r.c r.l r.A' r.c' r.s w h.hA h.hS h.hl h.hsl (fun x hx => Nat.le_trans (h.hm x hx) (by unfold maxLen; omega)) h.hs hG

theorem elEnt : ElT Tryz.prog 65 68 5 56 := ElT.mk_ (z := .agg #[.string ByteArray.empty, .int .i64 0, .int .i64 0, .int .i64 0, .string ByteArray.empty]) Tryz.underlying65 (by kernel_rfl) rfl (by decide)
theorem Sl.ent {w : World} {B : Nat} {A : Option Addr} {l : List Ent} (h : Sl w B 5 encE A l) {i : Nat} (hi : i < l.length) :
    ∃ b off, A = some ⟨b, off, none⟩ ∧ b < B ∧ w.cell? ⟨b, off + i * 5, none⟩ = some (.string ⟨(l[i]).1.1.toArray⟩) ∧ w.cell? ⟨b, off + i * 5 + 1, none⟩ = some (.int .i64 (l[i]).1.2.1) ∧
      w.cell? ⟨b, off + i * 5 + 2, none⟩ = some (.int .i64 (l[i]).1.2.2.1) ∧ w.cell? ⟨b, off + i * 5 + 3, none⟩ = some (.int .i64 (l[i]).1.2.2.2) ∧ w.cell? ⟨b, off + i * 5 + 4, none⟩ = some (.string ⟨(l[i]).2.toArray⟩) := by
  obtain ⟨b, off, e, hb, hc⟩ := h.at_ hi
  exact ⟨b, off, e, hb, by simpa using hc 0 _ rfl, hc 1 _ rfl, hc 2 _ rfl, hc 3 _ rfl, hc 4 _ rfl⟩

set_option maxHeartbeats 1000000 in
theorem entCmp_any (x y : Ent) (w : World) :
    Calls Tryz.prog 36 #[.agg #[.string ⟨x.1.1.toArray⟩, .int .i64 x.1.2.1, .int .i64 x.1.2.2.1, .int .i64 x.1.2.2.2, .string ⟨x.2.toArray⟩], .agg #[.string ⟨y.1.1.toArray⟩, .int .i64 y.1.2.1, .int .i64 y.1.2.2.1, .int .i64 y.1.2.2.2, .string ⟨y.2.toArray⟩]] w fun e w' => e = .returned (.int .i64 (ecmp x y)) ∧ BelowD w.heap.size w w' := by
  obtain ⟨⟨p, x1, x2, x3⟩, t⟩ := x
  obtain ⟨⟨p', y1, y2, y3⟩, t'⟩ := y
  have hc := Lib.hid (fun W => mCompare_any p p' x1 x2 x3 y1 y2 y3 W)
  have hec := Lib.hid (show ecmp ((p, x1, x2, x3), t) ((p', y1, y2, y3), t') = mcmp (p, x1, x2, x3) (p', y1, y2, y3) from rfl)
  generalize ecmp ((p, x1, x2, x3), t) ((p', y1, y2, y3), t') = E at hec ⊢
  simp only
  go_enter Tryz.func36, Tryz.ntmps36
  go_wp2_with (go_at_call 25; refine (hc.out _).mono ?_; rintro e w1 ⟨rfl, hb⟩)
  go_ret
  exact ⟨by rw [hec.out]; rfl, (((BelowD.refl _ _).alloc (Nat.le_refl _) _).alloc (by simp) _).trans (hb.mono (by simp; omega))⟩

theorem sortE_any (v : Value) (l : List Ent) (w : World) (base : Nat) (h : NewRowK w base 68 5 encE v l) (hl : l.length ≤ 1099511627776) :
    Calls Tryz.prog 35 #[v, .func (.func 36) #[] #[]] w (SortedTo w base 5 encE (ltOf ecmp) v l) :=
  sortK_any Tryz.sortE 5 68 Tryz.isAgg68 Tryz.sizeOf68 encE encE_len encE_one1 ecmp elt_swo 36 (enters_of Tryz.func36 (by kernel_rfl) rfl)
    (fun x y W => entCmp_any x y W) (fun p cap fv w => (AnyF.slices_SortFunc_none Tryz.sortE p cap fv w).mono fun e w' ⟨h1, h2⟩ => ⟨h1, h2.symm⟩) v l w base h hl
end Go.Proofs.YtabmidnamaaklaaGreatDoor
