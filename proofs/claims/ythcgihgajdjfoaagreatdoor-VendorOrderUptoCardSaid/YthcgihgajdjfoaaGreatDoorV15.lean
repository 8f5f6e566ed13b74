/- What the claim needs of: WV OM OK WS1. -/
import Derived.Test.YthcgihgajdjfoaaGreatDoorV14
import Derived.Test.YthcgihgajdjfoaaGreatDoorV9
import Derived.Test.YthcgihgajdjfoaaGreatDoorV7
import Derived.Maps.OwnSet
import Derived.Maps.RangeWalk
import Derived.StringKeys
import Derived.Test.YthcgihgajdjfoaaGreatDoorProg
import Derived.DeepKeys5
import Derived.WalkKit
namespace Go.Proofs.YthcgihgajdjfoaaGreatDoor
open Go.RowKit Go.Sort
structure RelA where
 m : Mod
 A : Option Addr
 c : Nat
 l : List Mod
 A' : Option Addr
 c' : Nat
 s : List Src2
instance : Inhabited RelA := ⟨⟨default, none, 0, [], none, 0, []⟩⟩
def RelA.rel (r : RelA) : Rel := (r.m, r.l, r.s)
def encR (r : RelA) : List Value := [.string ⟨r.m.1.toArray⟩, .int .i64 r.m.2.1, .int .i64 r.m.2.2.1, .int .i64 r.m.2.2.2, .slice r.A r.l.length r.c, .slice r.A' r.s.length r.c']
theorem encR_len (r : RelA) : (encR r).length = 6 := rfl
structure RelOk (w : World) (r : RelA) : Prop where
 hA : Sl w w.heap.size 4 encM r.A r.l
 hS : Sl w w.heap.size 2 encT r.A' r.s
 hl : r.l.length ≤ 1099511627776
 hsl : r.s.length ≤ 1099511627776
 hm : ∀ x ∈ r.m :: r.l, x.1.length ≤ 1099511627776
 hs : ∀ x ∈ r.s, x.1.length ≤ 1099511627776 ∧ x.2.length ≤ maxLen
theorem RelOk.below {w w' : World} {r : RelA} (h : RelOk w r) (hb : Below w.heap.size w w') : RelOk w' r := ⟨(h.hA.below hb).more hb.size, (h.hS.below hb).more hb.size, h.hl, h.hsl, h.hm, h.hs⟩
theorem Sl.rel {w : World} {B : Nat} {A : Option Addr} {l : List RelA} (h : Sl w B 6 encR A l) {i : Nat} (hi : i < l.length) :
  ∃ b off, A = some ⟨b, off, none⟩ ∧ b < B ∧ w.cell? ⟨b, off + i * 6, none⟩ = some (.string ⟨(l[i]).m.1.toArray⟩) ∧ w.cell? ⟨b, off + i * 6 + 1, none⟩ = some (.int .i64 (l[i]).m.2.1) ∧
    w.cell? ⟨b, off + i * 6 + 2, none⟩ = some (.int .i64 (l[i]).m.2.2.1) ∧ w.cell? ⟨b, off + i * 6 + 3, none⟩ = some (.int .i64 (l[i]).m.2.2.2) ∧
    w.cell? ⟨b, off + i * 6 + 4, none⟩ = some (.slice (l[i]).A (l[i]).l.length (l[i]).c) ∧ w.cell? ⟨b, off + i * 6 + 5, none⟩ = some (.slice (l[i]).A' (l[i]).s.length (l[i]).c') := by
 obtain ⟨b, off, e, hb, hc⟩ := h.at_ hi
 exact ⟨b, off, e, hb, by simpa using hc 0 _ rfl, hc 1 _ rfl, hc 2 _ rfl, hc 3 _ rfl, hc 4 _ rfl, hc 5 _ rfl⟩
theorem relA_any (r : RelA) (w : World) (h : RelOk w r) (hG : Glob w) :
  Calls Tryz.prog 27 #[.agg #[.string ⟨r.m.1.toArray⟩, .int .i64 r.m.2.1, .int .i64 r.m.2.2.1, .int .i64 r.m.2.2.2, .slice r.A r.l.length r.c, .slice r.A' r.s.length r.c']] w fun e w' => e = .returned (.tuple #[.string ⟨(rtext r.rel).toArray⟩, .int .i64 (rerr r.rel)]) ∧ Below w.heap.size w w' :=
 Release_any r.m r.A r.c r.l r.A' r.c' r.s w h.hA h.hS h.hl h.hsl (fun x hx => Nat.le_trans (h.hm x hx) (by unfold maxLen; omega)) h.hs hG
theorem elEnt : ElT Tryz.prog 123 126 5 56 := ElT.mk_ (z := .agg #[.string ByteArray.empty, .int .i64 0, .int .i64 0, .int .i64 0, .string ByteArray.empty]) Tryz.underlying123 (by kernel_rfl) rfl (by decide)
theorem Sl.ent {w : World} {B : Nat} {A : Option Addr} {l : List Ent} (h : Sl w B 5 encE A l) {i : Nat} (hi : i < l.length) :
  ∃ b off, A = some ⟨b, off, none⟩ ∧ b < B ∧ w.cell? ⟨b, off + i * 5, none⟩ = some (.string ⟨(l[i]).1.1.toArray⟩) ∧ w.cell? ⟨b, off + i * 5 + 1, none⟩ = some (.int .i64 (l[i]).1.2.1) ∧
    w.cell? ⟨b, off + i * 5 + 2, none⟩ = some (.int .i64 (l[i]).1.2.2.1) ∧ w.cell? ⟨b, off + i * 5 + 3, none⟩ = some (.int .i64 (l[i]).1.2.2.2) ∧ w.cell? ⟨b, off + i * 5 + 4, none⟩ = some (.string ⟨(l[i]).2.toArray⟩) := by
 obtain ⟨b, off, e, hb, hc⟩ := h.at_ hi
 exact ⟨b, off, e, hb, by simpa using hc 0 _ rfl, hc 1 _ rfl, hc 2 _ rfl, hc 3 _ rfl, hc 4 _ rfl⟩
set_option maxHeartbeats 1000000 in
theorem entCmp_any (x y : Ent) (w : World) :
  Calls Tryz.prog 80 #[.agg #[.string ⟨x.1.1.toArray⟩, .int .i64 x.1.2.1, .int .i64 x.1.2.2.1, .int .i64 x.1.2.2.2, .string ⟨x.2.toArray⟩], .agg #[.string ⟨y.1.1.toArray⟩, .int .i64 y.1.2.1, .int .i64 y.1.2.2.1, .int .i64 y.1.2.2.2, .string ⟨y.2.toArray⟩]] w fun e w' => e = .returned (.int .i64 (ecmp x y)) ∧ BelowD w.heap.size w w' := by
 obtain ⟨⟨p, x1, x2, x3⟩, t⟩ := x
 obtain ⟨⟨p', y1, y2, y3⟩, t'⟩ := y
 have hc := Lib.hid (fun W => mCompare_any p p' x1 x2 x3 y1 y2 y3 W)
 have hec := Lib.hid (show ecmp ((p, x1, x2, x3), t) ((p', y1, y2, y3), t') = mcmp (p, x1, x2, x3) (p', y1, y2, y3) from rfl)
 generalize ecmp ((p, x1, x2, x3), t) ((p', y1, y2, y3), t') = E at hec ⊢
 simp only
 go_enter Tryz.func80, Tryz.ntmps80
 go_wp2_with (go_at_call 41; refine (hc.out _).mono ?_; rintro e w1 ⟨rfl, hb⟩)
 go_ret
 exact ⟨by rw [hec.out]; rfl, (((BelowD.refl _ _).alloc (Nat.le_refl _) _).alloc (by simp) _).trans (hb.mono (by simp; omega))⟩
theorem sortE_any (v : Value) (l : List Ent) (w : World) (base : Nat) (h : NewRowK w base 126 5 encE v l) (hl : l.length ≤ 1099511627776) :
  Calls Tryz.prog 79 #[v, .func (.func 80) #[] #[]] w (SortedTo w base 5 encE (ltOf ecmp) v l) :=
 sortK_any Tryz.sortE 5 126 Tryz.isAgg126 Tryz.sizeOf126 encE encE_len encE_one1 ecmp elt_swo 80 (enters_of Tryz.func80 (by kernel_rfl) rfl)
  (fun x y W => entCmp_any x y W) (fun p cap fv w => (AnyF.slices_SortFunc_none Tryz.sortE p cap fv w).mono fun e w' ⟨h1, h2⟩ => ⟨h1, h2.symm⟩) v l w base h hl
end Go.Proofs.YthcgihgajdjfoaaGreatDoor
namespace Go.Proofs.YthcgihgajdjfoaaGreatDoor
open Go.RowKit
open Go.Maps (Keyed)
def Rv (v : Value) : Option (DataW Value × List MemPlace) := some (.held v, [])
structure KeyT (P : Program) (k : TypeId) (α : Type) where
 enc : α → Value
 ok : α → Prop
 lit : α → Lit
 keyed : Keyed P k
 key : ∀ a, ok a → keyOf P k (enc a) = some (lit a)
 inv : ∀ v l, keyOf P k v = some l → ∃ a, ok a ∧ v = enc a
 encInj : ∀ a b, enc a = enc b → a = b
section
variable {P : Program} {k t e : TypeId} {α : Type} {T : KeyT P k α} {w : World} {b n : Nat} {f : α → Option Value}
theorem KeyT.lit_inj {a a' : α} (h : T.ok a) (h' : T.ok a') (e : T.lit a = T.lit a') : a = a' := T.encInj _ _ (T.keyed.inj (T.key a h) (e ▸ T.key a' h'))
theorem KeyT.isKey {a : α} (h : T.ok a) : WideAt.IsKeyLit (T.lit a) := T.keyed.key (T.key a h)
def Tells (T : KeyT P k α) (D : DataW Value) (f : α → Option Value) : Prop :=
 ∀ a, T.ok a → (f a = none ∧ Maps.has D (T.lit a) = false) ∨ ∃ v, f a = some v ∧ Maps.has D (T.lit a) = true ∧ ∀ z, D.atKey (T.lit a) z = .held v
def OMap (T : KeyT P k α) (w : World) (b n : Nat) (f : α → Option Value) : Prop := ∃ D : DataW Value, w.ownsMap P k Rv b n D ∧ Tells T D f
theorem OMap.made (T : KeyT P k α) (w : World) : OMap T (w.alloc (.map #[] 0)) w.heap.size 0 (fun _ => none) :=
 ⟨.map [], World.ownsMap_made _ _ _ _, fun _ _ => .inl ⟨rfl, rfl⟩⟩
theorem OMap.kept {w' : World} {row : Option Nat} (h : OMap T w b n f) (hg : w.grownBy w' row) (hne : some b ≠ row) : OMap T w' b n f := by
 obtain ⟨D, h1, h2⟩ := h
 exact ⟨D, h1.kept hg hne, h2⟩
theorem OMap.below {w' : World} (h : OMap T w b n f) (hb : Below w.heap.size w w') : OMap T w' b n f := by
 refine h.kept (row := none) ⟨hb.os, hb.tape, hb.output, hb.size, fun k hk _ => hb.block k hk⟩ (by simp)
theorem OMap.alloc (h : OMap T w b n f) (o : Obj) : OMap T (w.alloc o) b n f := h.kept (World.grownBy_alloc w o none) (by simp)
theorem OMap.lt (h : OMap T w b n f) : b < w.heap.size := by obtain ⟨D, h1, _⟩ := h; exact h1.lt
theorem OMap.congr {f' : α → Option Value} (h : OMap T w b n f) (he : ∀ a, T.ok a → f' a = f a) : OMap T w b n f' := by
 obtain ⟨D, h1, h2⟩ := h
 refine ⟨D, h1, fun a ha => ?_⟩
 rw [he a ha]
 exact h2 a ha
theorem OMap.look (h : OMap T w b n f) (ht : P.underlying t = some (.map k e)) {z : Value} (hz : (zeroValue e).run P w = .ok z w) (a : α) (ha : T.ok a) :
  (Instr.lookup t (.map (some b)) (T.enc a) false).run P w = .ok ((f a).getD z) w := by
 obtain ⟨D, h1, h2⟩ := h
 obtain ⟨v, ps, hrun, hv⟩ := h1.lookup T.keyed ht hz (zd := .held z) (zp := []) rfl (T.key a ha)
 rw [hrun]
 rcases h2 a ha with ⟨h3, h4⟩ | ⟨u, h3, _, h4⟩
 ·rw [Maps.atKey_of_not_has h4] at hv
  have : v = z := by simp [Rv] at hv; exact hv.1
  rw [this, h3]
  rfl
 ·rw [h4] at hv
  have : v = u := by simp [Rv] at hv; exact hv.1
  rw [this, h3]
  rfl
theorem OMap.look_ok (h : OMap T w b n f) (ht : P.underlying t = some (.map k e)) {z : Value} (hz : (zeroValue e).run P w = .ok z w) (a : α) (ha : T.ok a) :
  (Instr.lookup t (.map (some b)) (T.enc a) true).run P w = .ok (.tuple #[(f a).getD z, .bool (f a).isSome]) w := by
 obtain ⟨D, h1, h2⟩ := h
 obtain ⟨v, ps, hrun, hv⟩ := h1.look_ok T.keyed ht hz (zd := .held z) (zp := []) rfl (T.key a ha)
 rw [hrun]
 rcases h2 a ha with ⟨h3, h4⟩ | ⟨u, h3, h5, h4⟩
 ·rw [Maps.atKey_of_not_has h4] at hv
  have : v = z := by simp [Rv] at hv; exact hv.1
  rw [this, h3, h4]
  rfl
 ·rw [h4] at hv
  have : v = u := by simp [Rv] at hv; exact hv.1
  rw [this, h3, h5]
  rfl
theorem OMap.put [DecidableEq α] (h : OMap T w b n f) (ht : P.underlying t = some (.map k e)) (hn : n < maxLen) (a : α) (ha : T.ok a) (v : Value) :
  ∃ w', (Instr.mapUpdate t (.map (some b)) (T.enc a) v).run P w = .ok () w' ∧ OMap T w' b (n + 1) (fun x => if x = a then some v else f x) ∧ w.grownBy w' (some b) := by
 obtain ⟨D, h1, h2⟩ := h
 obtain ⟨w', hrun, h3, h4⟩ := h1.update T.keyed ht hn (T.key a ha) (val := v) (d := .held v) (ps := []) rfl
 refine ⟨w', hrun, ⟨_, h3, fun x hx => ?_⟩, h4⟩
 by_cases he : x = a
 ·subst he
  exact .inr ⟨v, if_pos rfl, Maps.has_put_same h1.isMap (T.isKey hx) _, fun z => Maps.atKey_put_same h1.isMap (T.isKey hx) _ _⟩
 ·have hne : T.lit x ≠ T.lit a := fun e => he (T.lit_inj hx ha e)
  show ((if x = a then some v else f x) = none ∧ _) ∨ _
  simp only [if_neg he, Maps.has_put_other hne]
  rcases h2 x hx with h5 | ⟨u, h5, h6, h7⟩
  ·exact .inl h5
  ·exact .inr ⟨u, h5, h6, fun z => (Maps.atKey_put_other hne _ _).trans (h7 z)⟩
def ORange (T : KeyT P k α) (w : World) (b r n : Nat) (f : α → Option Value) (S : α → Bool) (cnt : Nat) : Prop :=
 ∃ (D : DataW Value) (left : Lit → Bool), w.ranges P k Rv b r n D left cnt ∧ Tells T D f ∧ ∀ a, T.ok a → left (T.lit a) = S a
theorem ORange.kept {w' : World} {row : Option Nat} {r cnt : Nat} {S : α → Bool} (h : ORange T w b r n f S cnt) (hg : w.grownBy w' row) (hb : some b ≠ row) (hr : some r ≠ row) : ORange T w' b r n f S cnt := by
 obtain ⟨D, left, h1, h2⟩ := h
 exact ⟨D, left, h1.kept hg hb hr, h2⟩
theorem ORange.below {w' : World} {r cnt : Nat} {S : α → Bool} (h : ORange T w b r n f S cnt) (hb : Below w.heap.size w w') : ORange T w' b r n f S cnt :=
 h.kept (row := none) ⟨hb.os, hb.tape, hb.output, hb.size, fun k hk _ => hb.block k hk⟩ (by simp) (by simp)
theorem ORange.congr {r cnt : Nat} {S S' : α → Bool} (h : ORange T w b r n f S cnt) (he : ∀ a, S' a = S a) : ORange T w b r n f S' cnt := by
 obtain ⟨D, left, h1, h2, h3⟩ := h
 exact ⟨D, left, h1, h2, fun a ha => (h3 a ha).trans (he a).symm⟩
theorem ORange.lt {r cnt : Nat} {S : α → Bool} (h : ORange T w b r n f S cnt) : r < w.heap.size := by
 obtain ⟨D, left, h1, _⟩ := h
 exact h1.lt
theorem OMap.range (h : OMap T w b n f) (ht : P.underlying t = some (.map k e)) :
  ∃ w' cnt, (Instr.range t (.map (some b))).run P w = .ok (.pointer (some ⟨w.heap.size, 0, none⟩)) w' ∧ ORange T w' b w.heap.size n f (fun a => (f a).isSome) cnt ∧ w.grownBy w' none ∧ w'.heap.size = w.heap.size + 1 ∧ cnt ≤ n := by
 obtain ⟨D, h1, h2⟩ := h
 have hsz := h1.size_le
 obtain ⟨w', hrun, h3, h4, h5⟩ := h1.range T.keyed ht
 refine ⟨w', _, hrun, ⟨D, _, h3, h2, fun a ha => ?_⟩, h4, h5, hsz⟩
 rcases h2 a ha with ⟨h6, h7⟩ | ⟨v, h6, h7, _⟩
 ·show _ = (f a).isSome
  rw [h7, h6]; rfl
 ·show _ = (f a).isSome
  rw [h7, h6]; rfl
theorem ORange.next [DecidableEq α] {r cnt : Nat} {S : α → Bool} (h : ORange T w b r n f S cnt) (ty : TypeId) :
  (cnt = 0 ∧ (∀ a, T.ok a → S a = false) ∧ (Instr.next (.pointer (some ⟨r, 0, none⟩)) false ty).run P w = .ok (.tuple #[.bool false]) w) ∨
  ∃ a v w' cnt', T.ok a ∧ S a = true ∧ f a = some v ∧ (Instr.next (.pointer (some ⟨r, 0, none⟩)) false ty).run P w = .ok (.tuple #[.bool true, T.enc a, v]) w' ∧
    ORange T w' b r n f (fun x => S x && !decide (x = a)) cnt' ∧ cnt' < cnt ∧ w.grownBy w' (some r) ∧ w'.heap.size = w.heap.size ∧ (Instr.entry (.pointer (some ⟨r, 0, none⟩))).run P w' = .ok (.tuple #[T.enc a, v]) w' := by
 obtain ⟨D, left, h1, h2, h3⟩ := h
 rcases h1.next T.keyed ty with ⟨h4, h5, h6⟩ | ⟨key, v, kl, y, w', cnt', hk, hl, hv, hat, hrun, hrg, hlt, hgr, hsz, hen⟩
 ·exact .inl ⟨h4, fun a ha => by rw [← h3 a ha]; exact h5 _, h6⟩
 ·obtain ⟨a, ha, rfl⟩ := T.inv _ _ hk
  obtain rfl : T.lit a = kl := by have := T.key a ha; rw [hk] at this; exact (Option.some.inj this).symm
  have hy : y = (.held v, []) := by simp [Rv] at hv; exact hv.symm
  subst hy
  refine .inr ⟨a, v, w', cnt', ha, by rw [← h3 a ha]; exact hl, ?_, hrun, ⟨D, _, hrg, h2, fun x hx => ?_⟩, hlt, hgr, hsz, hen⟩
  ·rcases h2 a ha with ⟨h7, h8⟩ | ⟨u, h7, _, h8⟩
   ·have h9 := hat (.lit (.bool false))
    rw [Maps.atKey_of_not_has h8] at h9
    cases h9
   ·have h9 := hat (.lit (.bool false))
    rw [h8] at h9
    injection h9 with h9
    rw [h7, h9]
  ·show (left (T.lit x) && !(T.lit x).sameKey (T.lit a)) = _
   rw [h3 x hx]
   by_cases he : x = a
   ·subst he
    show _ = (S x && !decide (x = x))
    rw [WideAt.sameKey_self (T.isKey hx), decide_eq_true rfl]
   ·show _ = (S x && !decide (x = a))
    rw [Maps.sameKey_ne (fun e => he (T.lit_inj hx ha e)), decide_eq_false he]
end
section
variable {P : Program} {k t e : TypeId} {α : Type} {T : KeyT P k α} {w : World} {b n : Nat} {f : α → Option Value} {ops : Array Oper} {rest : List Oper} {o : Oper} {a : Act} {Q : Exit → Act → World → Prop}
end
end Go.Proofs.YthcgihgajdjfoaaGreatDoor
namespace Go.Proofs.YthcgihgajdjfoaaGreatDoor
open Go.RowKit
def okI (x : Int) : Prop := (Lit.int .i64 x).wf = true
def okMod (m : Mod) : Prop := m.1.length ≤ maxLen ∧ okI m.2.1 ∧ okI m.2.2.1 ∧ okI m.2.2.2
def litsMod (m : Mod) : List Lit := [.string m.1, .int .i64 m.2.1, .int .i64 m.2.2.1, .int .i64 m.2.2.2]
def litMod (m : Mod) : Lit := .string (keyBytes (litsMod m))
theorem wideMod : (match Tryz.prog.underlying 26 with | some (.array _ _) | some (.struct _) => true | _ => false) = true := by kernel_rfl
theorem keyTypeMod : Tryz.prog.keyType 26 = true := by kernel_rfl
theorem formedMod (m : Mod) : (modV m).formed Tryz.prog 26 = true := by kernel_rfl
theorem fuelK : ∃ d, Tryz.prog.types.size + 1 = d + 3 := ⟨Tryz.prog.types.size - 2, of_decide_eq_true (by kernel_rfl)⟩
theorem cellsM : Tryz.prog.cellsOf 26 = 4 := by kernel_rfl
theorem cellsV : Tryz.prog.cellsOf 24 = 3 := by kernel_rfl
theorem cellsS : Tryz.prog.cellsOf 9 = 1 := by kernel_rfl
theorem cellsI : Tryz.prog.cellsOf 3 = 1 := by kernel_rfl
theorem kInt (d : Nat) (x : Int) (h : okI x) : Tryz.prog.keyLits (d + 1) 3 [.int .i64 x] = some [.int .i64 x] := by
 unfold okI at h
 simp [Program.keyLits, Tryz.underlying3, h]
theorem kStr (d : Nat) (s : List UInt8) (h : s.length ≤ maxLen) : Tryz.prog.keyLits (d + 1) 9 [.string ⟨s.toArray⟩] = some [.string s] := by
 have hs : (⟨s.toArray⟩ : ByteArray).size ≤ maxLen := by simpa [ByteArray.size] using h
 simp [Program.keyLits, Tryz.underlying9, hs]
theorem kVer (d : Nat) (x y z : Int) (h1 : okI x) (h2 : okI y) (h3 : okI z) : Tryz.prog.keyLits (d + 2) 24 [.int .i64 x, .int .i64 y, .int .i64 z] = some [.int .i64 x, .int .i64 y, .int .i64 z] := by
 unfold Program.keyLits
 simp only [Tryz.underlying24]
 rw [if_pos ⟨by rw [cellsV]; rfl, by decide +kernel⟩]
 simp [cellsI, kInt _ _ h1, kInt _ _ h2, kInt _ _ h3]
theorem kMod (d : Nat) (m : Mod) (h : okMod m) : Tryz.prog.keyLits (d + 3) 26 (modV m).cells.toList = some (litsMod m) := by
 obtain ⟨h0, h1, h2, h3⟩ := h
 show Tryz.prog.keyLits (d + 3) 26 [.string ⟨m.1.toArray⟩, .int .i64 m.2.1, .int .i64 m.2.2.1, .int .i64 m.2.2.2] = _
 unfold Program.keyLits
 simp only [Tryz.underlying26]
 rw [if_pos ⟨by rw [cellsM]; rfl, by decide +kernel⟩]
 simp [cellsS, cellsV, kStr _ _ h0, kVer _ _ _ _ h1 h2 h3, litsMod]
theorem kInt_inv {d : Nat} {v : Value} {L : List Lit} (h : Tryz.prog.keyLits (d + 1) 3 [v] = some L) : ∃ x, okI x ∧ v = .int .i64 x := by
 unfold Program.keyLits at h
 simp only [Tryz.underlying3] at h
 cases v <;> simp at h
 obtain ⟨⟨rfl, h2⟩, _⟩ := h
 exact ⟨_, h2, rfl⟩
theorem kStr_inv {d : Nat} {v : Value} {L : List Lit} (h : Tryz.prog.keyLits (d + 1) 9 [v] = some L) : ∃ s : List UInt8, s.length ≤ maxLen ∧ v = .string ⟨s.toArray⟩ := by
 unfold Program.keyLits at h
 simp only [Tryz.underlying9] at h
 cases v with
 | string b =>
   simp only at h
   split at h
   ·rename_i hb
    exact ⟨b.data.toList, by rw [Array.length_toList]; exact hb, rfl⟩
   ·cases h
 | _ => cases h
theorem mapM3 {α β : Type} {g : α → Option β} {a b c : α} {L : List β} (h : [a, b, c].mapM g = some L) : ∃ x y z, g a = some x ∧ g b = some y ∧ g c = some z := by
 cases h1 : g a with
 | none => simp [h1] at h
 | some x =>
   cases h2 : g b with
   | none => simp [h1, h2] at h
   | some y =>
     cases h3 : g c with
     | none => simp [h1, h2, h3] at h
     | some z => exact ⟨x, y, z, rfl, rfl, rfl⟩
theorem mapM2 {α β : Type} {g : α → Option β} {a b : α} {L : List β} (h : [a, b].mapM g = some L) : ∃ x y, g a = some x ∧ g b = some y := by
 cases h1 : g a with
 | none => simp [h1] at h
 | some x =>
   cases h2 : g b with
   | none => simp [h1, h2] at h
   | some y => exact ⟨x, y, rfl, rfl⟩
theorem kVer_inv {d : Nat} {a b c : Value} {L : List Lit} (h : Tryz.prog.keyLits (d + 2) 24 [a, b, c] = some L) : ∃ x y z, (okI x ∧ okI y ∧ okI z) ∧ a = .int .i64 x ∧ b = .int .i64 y ∧ c = .int .i64 z := by
 unfold Program.keyLits at h
 simp only [Tryz.underlying24] at h
 rw [if_pos ⟨by rw [cellsV]; rfl, by decide +kernel⟩] at h
 obtain ⟨L', h', _⟩ := Option.map_eq_some_iff.1 h
 obtain ⟨l1, l2, l3, h1, h2, h3⟩ := mapM3 h'
 change Tryz.prog.keyLits (d + 1) 3 (List.take (Tryz.prog.cellsOf 3) [a, b, c]) = _ at h1
 change Tryz.prog.keyLits (d + 1) 3 (List.take (Tryz.prog.cellsOf 3) [b, c]) = _ at h2
 change Tryz.prog.keyLits (d + 1) 3 (List.take (Tryz.prog.cellsOf 3) [c]) = _ at h3
 rw [cellsI] at h1 h2 h3
 obtain ⟨x, hx, rfl⟩ := kInt_inv h1
 obtain ⟨y, hy, rfl⟩ := kInt_inv h2
 obtain ⟨z, hz, rfl⟩ := kInt_inv h3
 exact ⟨x, y, z, ⟨hx, hy, hz⟩, rfl, rfl, rfl⟩
theorem list4 {α : Type} {l : List α} (h : l.length = 4) : ∃ a b c e, l = [a, b, c, e] := by
 match l, h with
 | [a, b, c, e], _ => exact ⟨a, b, c, e, rfl⟩
set_option maxRecDepth 100000 in
theorem kMod_inv {d : Nat} {xs : List Value} {L : List Lit} (h : Tryz.prog.keyLits (d + 3) 26 xs = some L) : ∃ m : Mod, okMod m ∧ xs = (modV m).cells.toList := by
 by_cases hl : xs.length = 4
 ·obtain ⟨a, b, c, e, rfl⟩ := list4 hl
  ·skip
   unfold Program.keyLits at h
   simp only [Tryz.underlying26] at h
   rw [if_pos ⟨by rw [cellsM]; rfl, by decide +kernel⟩] at h
   obtain ⟨L', h', _⟩ := Option.map_eq_some_iff.1 h
   obtain ⟨l1, l2, h1, h2⟩ := mapM2 h'
   change Tryz.prog.keyLits (d + 2) 9 (List.take (Tryz.prog.cellsOf 9) [a, b, c, e]) = _ at h1
   change Tryz.prog.keyLits (d + 2) 24 (List.take (Tryz.prog.cellsOf 24) [b, c, e]) = _ at h2
   rw [cellsS] at h1
   rw [cellsV] at h2
   obtain ⟨s, hs, rfl⟩ := kStr_inv h1
   obtain ⟨x, y, z, ⟨hx, hy, hz⟩, rfl, rfl, rfl⟩ := kVer_inv h2
   exact ⟨(s, x, y, z), ⟨hs, hx, hy, hz⟩, rfl⟩
 ·unfold Program.keyLits at h
  simp only [Tryz.underlying26] at h
  rw [if_neg (fun hh => hl (hh.1.trans cellsM))] at h
  cases h
set_option maxRecDepth 100000 in
theorem keyMod_law : Maps.Keyed Tryz.prog 26 := Maps.Keyed.of_law (deep_law_gate (by kernel_rfl) (of_decide_eq_true (by kernel_rfl)) (of_decide_eq_true (by kernel_rfl)) keyTypeMod wideMod)
set_option maxRecDepth 100000 in
theorem kMod_top {v : Value} {l : Lit} (h : keyOf Tryz.prog 26 v = some l) : ∃ (xs : Array Value) (L : List Lit), v = .agg xs ∧ Tryz.prog.keyLits (Tryz.prog.types.size + 1) 26 xs.toList = some L := by
 obtain ⟨xs, L, h1, h2, _⟩ := keyOf_top wideMod h
 exact ⟨xs, L, h1, h2⟩
set_option maxRecDepth 100000 in
def KM : KeyT Tryz.prog 26 Mod where
 enc := modV
 ok := okMod
 lit := litMod
 keyed := keyMod_law
 key := fun m h => by
  have hu : ∃ fs, Tryz.prog.underlying 26 = some (.struct fs) := ⟨_, Tryz.underlying26⟩
  obtain ⟨fs, hu⟩ := hu
  obtain ⟨d, hd⟩ := fuelK
  unfold keyOf
  rw [hu]
  simp only
  rw [keyTypeMod, formedMod, Bool.and_self, if_pos rfl, hd, kMod d m h]
  rfl
 inv := fun v l h => by
  obtain ⟨xs, L, rfl, h1⟩ := kMod_top h
  obtain ⟨d, hd⟩ := fuelK
  rw [hd] at h1
  obtain ⟨m, hm, he⟩ := kMod_inv h1
  refine ⟨m, hm, ?_⟩
  show Value.agg xs = _
  have : xs = (modV m).cells := Array.ext' he
  rw [this]
  rfl
 encInj := fun a b h => by
  obtain ⟨p, x, y, z⟩ := a
  obtain ⟨p', x', y', z'⟩ := b
  simp [modV] at h
  simp [h]
def KS : KeyT Tryz.prog 9 (List UInt8) where
 enc := fun s => .string ⟨s.toArray⟩
 ok := fun s => s.length ≤ maxLen
 lit := fun s => .string s
 keyed := Maps.string_keyed Tryz.underlying9
 key := fun s h => by
  have := WideMaps.keyOf_string_mk (P := Tryz.prog) Tryz.underlying9 (s := ⟨s.toArray⟩) (by simpa [ByteArray.size] using h)
  simpa using this
 inv := fun v l h => by
  unfold keyOf mapKey at h
  simp only [Tryz.underlying9] at h
  cases v with
  | string b =>
    simp only at h
    split at h
    ·rename_i hb
     exact ⟨b.data.toList, by rw [Array.length_toList]; exact hb, rfl⟩
    ·cases h
  | _ => cases h
 encInj := fun a b h => by simpa using h
end Go.Proofs.YthcgihgajdjfoaaGreatDoor
namespace Go.Proofs.YthcgihgajdjfoaaGreatDoor
open Go.RowKit Go.Sort
abbrev ManW := Mod × (Option Addr × Nat × List Mod)
def encW (y : ManW) : List Value := [.string ⟨y.1.1.toArray⟩, .int .i64 y.1.2.1, .int .i64 y.1.2.2.1, .int .i64 y.1.2.2.2, .slice y.2.1 y.2.2.2.length y.2.2.1]
theorem encW_len (y : ManW) : (encW y).length = 5 := rfl
def plainW (y : ManW) : Mod × List Mod := (y.1, y.2.2.2)
def regW (Y : List ManW) : Regy := Y.map plainW
def okB (m : Mod) : Prop := m.1.length ≤ 1048576 ∧ okI m.2.1 ∧ okI m.2.2.1 ∧ okI m.2.2.2
theorem okB.ok {m : Mod} (h : okB m) : okMod m := ⟨by have := h.1; unfold maxLen; omega, h.2⟩
def ManOk (w : World) (B : Nat) (y : ManW) : Prop := Sl w B 4 encM y.2.1 y.2.2.2 ∧ y.2.2.2.length ≤ 100 ∧ ∀ m ∈ y.1 :: y.2.2.2, okB m
theorem ManOk.keep {w w' : World} {B : Nat} {y : ManW} (h : ManOk w B y) (hb : Below B w w') : ManOk w' B y := ⟨h.1.below hb, h.2⟩
theorem ManOk.more {w : World} {B B' : Nat} {y : ManW} (h : ManOk w B y) (hb : B ≤ B') : ManOk w B' y := ⟨h.1.more hb, h.2⟩
def RegOk (w : World) (B : Nat) (A : Option Addr) (Y : List ManW) : Prop := Sl w B 5 encW A Y ∧ (∀ y ∈ Y, ManOk w B y) ∧ Y.length ≤ 100
theorem RegOk.keep {w w' : World} {B : Nat} {A : Option Addr} {Y : List ManW} (h : RegOk w B A Y) (hb : Below B w w') : RegOk w' B A Y := ⟨h.1.below hb, fun y hy => (h.2.1 y hy).keep hb, h.2.2⟩
theorem RegOk.more {w : World} {B B' : Nat} {A : Option Addr} {Y : List ManW} (h : RegOk w B A Y) (hb : B ≤ B') : RegOk w B' A Y := ⟨h.1.more hb, fun y hy => (h.2.1 y hy).more hb, h.2.2⟩
theorem RegOk.step {w w' : World} {A : Option Addr} {Y : List ManW} (h : RegOk w w.heap.size A Y) (hb : Below w.heap.size w w') : RegOk w' w'.heap.size A Y := (h.keep hb).more hb.size
theorem Sl.man {w : World} {B : Nat} {A : Option Addr} {Y : List ManW} (h : Sl w B 5 encW A Y) {i : Nat} (hi : i < Y.length) :
  ∃ b off, A = some ⟨b, off, none⟩ ∧ b < B ∧ w.cell? ⟨b, off + i * 5, none⟩ = some (.string ⟨(Y[i]).1.1.toArray⟩) ∧ w.cell? ⟨b, off + i * 5 + 1, none⟩ = some (.int .i64 (Y[i]).1.2.1) ∧
    w.cell? ⟨b, off + i * 5 + 2, none⟩ = some (.int .i64 (Y[i]).1.2.2.1) ∧ w.cell? ⟨b, off + i * 5 + 3, none⟩ = some (.int .i64 (Y[i]).1.2.2.2) ∧ w.cell? ⟨b, off + i * 5 + 4, none⟩ = some (.slice (Y[i]).2.1 (Y[i]).2.2.2.length (Y[i]).2.2.1) := by
 obtain ⟨b, off, e, hb, hc⟩ := h.at_ hi
 exact ⟨b, off, e, hb, by simpa using hc 0 _ rfl, hc 1 _ rfl, hc 2 _ rfl, hc 3 _ rfl, hc 4 _ rfl⟩
theorem zeroBool (w : World) : (zeroValue 4).run Tryz.prog w = .ok (.bool false) w := Tryz.zeroValue4 w
def seenM (L : List Mod) (m : Mod) : Option Value := if m ∈ L then some (.bool true) else none
theorem seenM_get (L : List Mod) (m : Mod) : (seenM L m).getD (.bool false) = .bool (decide (m ∈ L)) := by
 unfold seenM
 split <;> simp [*]
theorem seenM_put (L : List Mod) (a : Mod) : (fun x => if x = a then some (.bool true) else seenM L x) = seenM (L ++ [a]) := by
 funext x
 unfold seenM
 by_cases h : x = a <;> by_cases h2 : x ∈ L <;> simp [h, h2]
set_option maxRecDepth 100000 in
set_option maxHeartbeats 4000000 in
theorem selCheck_any (A : Option Addr) (c : Nat) (Y : List ManW) (w : World) (hY : RegOk w w.heap.size A Y) (hG : Glob w) :
  Calls Tryz.prog 66 #[.slice A Y.length c] w fun e w' => e = .returned (.int .i64 (checkR (regW Y))) ∧ Below w.heap.size w w' := by
 have HY := Lib.hid hY
 have HG := Lib.hid hG
 have hYl := hY.2.2
 have hRl : (regW Y).length = Y.length := by simp [regW]
 have HRat := Lib.hid (fun i (hi : i < Y.length) (hr : i < (regW Y).length) => show (regW Y)[i] = (Y[i].1, Y[i].2.2.2) by simp [regW, plainW])
 have HRL := Lib.hid hRl
 obtain ⟨E, hE⟩ : ∃ E, E = checkR (regW Y) := ⟨_, rfl⟩
 rw [← hE]
 unfold checkR at hE
 have hCR := Lib.hid hE
 clear hE
 generalize regW Y = R at HRat HRL hCR
 have hm0 := OMap.made KM w
 have hmm := @run_makeMap Tryz.prog
 clear hY hG hRl
 go_enter Tryz.func66, Tryz.ntmps66
 go_wp2
 go_loopw [4, 11] (fun tw i wr => ∃ k : Nat, k ≤ Y.length ∧ i = .int .i64 (k : Nat) ∧ tw = .bool (dupR (R.take k)) ∧ Hid (firstBad (R.take k) = 0) ∧ OMap KM wr w.heap.size k (seenM ((R.take k).map (·.1))) ∧ Below w.heap.size w wr) (fun _ i _ => Y.length - (intOf i).toNat)
 case atStart => exact ⟨0, Nat.zero_le _, rfl, rfl, Lib.hid rfl, hm0, (Below.refl _ _).alloc (Nat.le_refl _) _⟩
 case round =>
  obtain ⟨k, hk, rfl, rfl, HF, hm, hb⟩ := hrel
  have hbz := hb.size
  by_cases hlt : k < Y.length
  ·have hlt' : (k : Int) < (Y.length : Int) := by omega
   obtain ⟨b, off, rfl, hbB, g0, g1, g2, g3, g4⟩ := (HY.out.keep hb).1.man hlt
   obtain ⟨hy1, hy2, hy3⟩ := HY.out.2.1 _ (List.getElem_mem hlt)
   have hkR : k < R.length := by rw [HRL.out]; exact hlt
   have hRk := HRat.out k hlt hkR
   have HHit := Lib.hid (firstBad_hit R k hkR HF.out)
   have HStep := Lib.hid (firstBad_step R k hkR HF.out)
   have HDup := Lib.hid (dupR_step R k hkR)
   have HTk := Lib.hid (show (R.take (k + 1)).map (·.1) = (R.take k).map (·.1) ++ [Y[k].1] by rw [List.take_succ_eq_append_getElem hkR, List.map_append, hRk]; rfl)
   rw [hRk] at HHit HStep HDup
   have HS := Lib.hid hy1
   generalize Y[k] = y at g0 g1 g2 g3 g4 HS hy2 hy3 HHit HStep HDup HTk
   obtain ⟨m, A1, c1, l1⟩ := y
   simp only at g0 g1 g2 g3 g4 HS hy2 hy3 HHit HStep HDup HTk
   have hbq := hb.alloc hbz (.cells #[.string ⟨m.1.toArray⟩, .int .i64 m.2.1, .int .i64 m.2.2.1, .int .i64 m.2.2.2, .slice A1 l1.length c1] 29)
   have q0 := Blk.new wr 29 #[.string ⟨m.1.toArray⟩, .int .i64 m.2.1, .int .i64 m.2.2.1, .int .i64 m.2.2.2, .slice A1 l1.length c1]
   have hm1 := hm.alloc (.cells #[.string ⟨m.1.toArray⟩, .int .i64 m.2.1, .int .i64 m.2.2.1, .int .i64 m.2.2.2, .slice A1 l1.length c1] 29)
   have hz1 : (wr.alloc (.cells #[.string ⟨m.1.toArray⟩, .int .i64 m.2.1, .int .i64 m.2.2.1, .int .i64 m.2.2.2, .slice A1 l1.length c1] 29)).heap.size = wr.heap.size + 1 := by simp
   have cC := Lib.hid (fun W (hW : Below w.heap.size w W) => Check_any m A1 c1 l1 W ((HS.out.below hW).more hW.size) (by omega) (fun x hx => by have := (hy3 x hx).1; unfold maxLen; omega) (HG.out.keep hW))
   have HOK := Lib.hid (show okMod m from (hy3 m (by simp)).ok)
   have Q0 := Lib.hid q0
   have M1 := Lib.hid hm1
   have HBQ := Lib.hid hbq
   clear q0 hm1 hbq hy3 hm
   generalize mcheck m l1 = e0 at cC HHit HStep
   go_wp2_with fail
   generalize (wr.alloc (.cells #[.string ⟨m.1.toArray⟩, .int .i64 m.2.1, .int .i64 m.2.2.1, .int .i64 m.2.2.2, .slice A1 l1.length c1] 29)) = w1 at Q0 M1 HBQ hz1 ⊢
   refine (cC.out w1 HBQ.out).mono ?_
   rintro e w2 ⟨rfl, hb2⟩
   have Q2 := Lib.hid (Q0.out.keep hb2)
   have M2 := Lib.hid (M1.out.below hb2)
   have HB2 := Lib.hid (HBQ.out.trans (hb2.mono HBQ.out.size))
   clear hb2 cC Q0 M1 g0 g1 g2 g3 g4
   by_cases he0 : e0 = 0
   ·subst he0
    have HF2 := Lib.hid (HStep.out rfl)
    clear HHit HStep
    have y0 := Q2.out.cell 0
    have y1 := Q2.out.cell 1
    have y2 := Q2.out.cell 2
    have y3 := Q2.out.cell 3
    simp at y0 y1 y2 y3
    have hlook := M2.out.look Tryz.underlying136 (zeroBool w2) m HOK.out
    rw [seenM_get] at hlook
    obtain ⟨w3, hput, hm3, hg3⟩ := M2.out.put Tryz.underlying136 (by unfold maxLen; omega) m HOK.out (.bool true)
    rw [seenM_put] at hm3
    have hlook' : (Instr.lookup 136 (.map (some w.heap.size)) (.agg #[.string ⟨m.1.toArray⟩, .int .i64 m.2.1, .int .i64 m.2.2.1, .int .i64 m.2.2.2]) false).run Tryz.prog w2 = _ := hlook
    have hput' : (Instr.mapUpdate 136 (.map (some w.heap.size)) (.agg #[.string ⟨m.1.toArray⟩, .int .i64 m.2.1, .int .i64 m.2.2.1, .int .i64 m.2.2.2]) (.bool true)).run Tryz.prog w2 = _ := hput
    have M3 := Lib.hid hm3
    have HB3 := Lib.hid (HB2.out.grown hg3 HB2.out.size (by simp))
    clear hlook hput hm3 hg3 M2 Q2
    generalize decide (m ∈ (R.take k).map (·.1)) = d at hlook' HDup
    cases hd : dupR (R.take k)
    ·rw [hd] at HDup
     go_wp2
     go_roundw
     case rel => exact ⟨k + 1, by omega, by go_num, by rw [HDup.out]; rfl, HF2, by rw [HTk.out]; exact M3.out, HB3.out⟩
     case measure => simp [intOf]; omega
    ·rw [hd] at HDup
     go_wp2
     go_roundw
     case rel => exact ⟨k + 1, by omega, by go_num, by rw [HDup.out]; rfl, HF2, by rw [HTk.out]; exact M3.out, HB3.out⟩
     case measure => simp [intOf]; omega
   ·have hfin := Lib.hid (show E = e0 by
     have h := HHit.out he0
     rw [hCR.out, if_neg (by rw [h]; exact he0), h])
    have he1 : (e0 != 0) = true := by simpa using he0
    clear he0 HHit HStep
    go_wp2
    go_ret
    exact ⟨by rw [hfin.out]; rfl, HB2.out⟩
  ·obtain rfl : k = Y.length := by omega
   have hf := HF.out
   rw [← HRL.out, List.take_of_length_le (Nat.le_refl _)] at hf
   have hfin := Lib.hid (show E = if dupR R = true then 6 else 0 by rw [hCR.out, if_pos hf])
   have ht : R.take Y.length = R := List.take_of_length_le (by rw [HRL.out]; exact Nat.le_refl _)
   rw [ht] at *
   clear hf HF ht hCR
   cases hd : dupR R
   ·rw [hd] at hfin
    go_wp2
    go_ret
    exact ⟨by rw [hfin.out]; rfl, hb⟩
   ·rw [hd] at hfin
    go_wp2
    go_ret
    exact ⟨by rw [hfin.out]; rfl, hb⟩
end Go.Proofs.YthcgihgajdjfoaaGreatDoor
