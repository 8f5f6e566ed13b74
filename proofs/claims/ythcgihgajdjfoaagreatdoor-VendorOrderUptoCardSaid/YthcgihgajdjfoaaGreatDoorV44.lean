/- What the claim needs of: Open2 Frame Keep IQ Pf IR. -/
import Derived.Test.YthcgihgajdjfoaaGreatDoorV43
import Derived.Test.YthcgihgajdjfoaaGreatDoorV7
import Derived.Test.YthcgihgajdjfoaaGreatDoorV15
import Derived.Test.YthcgihgajdjfoaaGreatDoorCards
import Derived.Test.YthcgihgajdjfoaaGreatDoorTie
import Derived.Test.YthcgihgajdjfoaaGreatDoorV6
import Derived.WalkKit
import Derived.ProofKit
import Derived.OpenShut
import Derived.Deep.DeepHandedRow
import Derived.Lib.LaidTab
import Derived.Lay
import Derived.MakeChecks
import Derived.Stop.LaidErr
import Derived.ChangeSame
import Derived.ChangeStays
import Derived.ChangeOld
import Derived.ChangeBears
import Derived.Test.YthcgihgajdjfoaaGreatDoorV42
import Derived.Test.YthcgihgajdjfoaaGreatDoorV27
import Derived.Test.YthcgihgajdjfoaaGreatDoorV34
import Derived.Test.YthcgihgajdjfoaaGreatDoorV21
import Derived.BigQuiet
namespace Go.Proofs.YthcgihgajdjfoaaGreatDoor
open Go.ChangeShapes Go.WideShapes Go.RowKit Go.Deep
theorem Opens.to {α β : Type} {P : Program} {w : World} {B : Nat} {t : TypeId} {enc : α → List Value} {OK : α → Prop} {enc' : β → List Value} {OK' : β → Prop} (h : Opens P w B t enc OK) (f : α → β) (he : ∀ y, enc y = enc' (f y)) (ho : ∀ y, OK y → OK' (f y)) : Opens P w B t enc' OK' := by
 intro H en sp held fuel cs x hx hB
 obtain ⟨y, rfl, hy⟩ := h H en sp held fuel cs x hx hB
 exact ⟨f y, he y, ho y hy⟩
theorem opens_version (w : World) (B : Nat) : Opens Tryz.prog w B 24 (fun y : Int × Int × Int => [.int .i64 y.1, .int .i64 y.2.1, .int .i64 y.2.2]) (fun y => okI y.1 ∧ okI y.2.1 ∧ okI y.2.2) :=
 (opens_struct3 Tryz.underlying24 rfl (by kernel_rfl) (by kernel_rfl) (by kernel_rfl) (opens_int Tryz.underlying3) (opens_int Tryz.underlying3) (opens_int Tryz.underlying3)).to id (fun _ => rfl) (fun _ h => h)
theorem opens_module (w : World) (B : Nat) : Opens Tryz.prog w B 26 encM (fun m => m.1.length ≤ B ∧ okI m.2.1 ∧ okI m.2.2.1 ∧ okI m.2.2.2) :=
 (opens_struct2 Tryz.underlying26 rfl (by kernel_rfl) (by kernel_rfl) (opens_string Tryz.underlying9) (opens_version w B)).to id (fun _ => rfl) (fun _ h => h)
theorem opens_modules (w : World) (B : Nat) : Opens Tryz.prog w B 27 (encSl (α := Mod)) (SlOk w B 4 encM (fun m => m.1.length ≤ B ∧ okI m.2.1 ∧ okI m.2.2.1 ∧ okI m.2.2.2)) :=
 opens_slice Tryz.underlying27 (by kernel_rfl) (by decide) encM_len (opens_module w B)
def inM (B : Nat) (m : Mod) : Prop := m.1.length ≤ B ∧ okI m.2.1 ∧ okI m.2.2.1 ∧ okI m.2.2.2
def inW (w : World) (B : Nat) (y : ManW) : Prop := inM B y.1 ∧ SlOk w B 4 encM (inM B) y.2
theorem opens_manifest (w : World) (B : Nat) : Opens Tryz.prog w B 29 encW (inW w B) :=
 (opens_struct2 Tryz.underlying29 rfl (by kernel_rfl) (by kernel_rfl) (opens_module w B) (opens_modules w B)).to id (fun _ => rfl) (fun _ h => h)
theorem opens_manifests (w : World) (B : Nat) : Opens Tryz.prog w B 72 (encSl (α := ManW)) (SlOk w B 5 encW (inW w B)) :=
 opens_slice Tryz.underlying72 (by kernel_rfl) (by decide) encW_len (opens_manifest w B)
theorem opens_source (w : World) (B : Nat) : Opens Tryz.prog w B 64 encT (fun x => x.1.length ≤ B ∧ x.2.length ≤ B) :=
 (opens_struct2 Tryz.underlying64 rfl (by kernel_rfl) (by kernel_rfl) (opens_string Tryz.underlying9) (opens_string Tryz.underlying9)).to id (fun _ => rfl) (fun _ h => h)
theorem opens_sources (w : World) (B : Nat) : Opens Tryz.prog w B 60 (encSl (α := Src2)) (SlOk w B 2 encT (fun x => x.1.length ≤ B ∧ x.2.length ≤ B)) :=
 opens_slice Tryz.underlying60 (by kernel_rfl) (by decide) encT_len (opens_source w B)
structure inR (w : World) (B : Nat) (r : RelA) : Prop where
 ok : RelOk w r
 m : ∀ x ∈ r.m :: r.l, inM B x
 l : r.l.length ≤ B
 s : r.s.length ≤ B
 q : ∀ x ∈ r.s, x.1.length ≤ B ∧ x.2.length ≤ B
theorem opens_release (w : World) (B : Nat) (hB : B ≤ 1099511627776) : Opens Tryz.prog w B 62 encR (inR w B) :=
 (opens_struct2 Tryz.underlying62 rfl (by kernel_rfl) (by kernel_rfl) (opens_manifest w B) (opens_sources w B)).to (fun y => ⟨y.1.1, y.1.2.1, y.1.2.2.1, y.1.2.2.2, y.2.1, y.2.2.1, y.2.2.2⟩) (fun _ => rfl) (by
  rintro ⟨⟨m, A, c, l⟩, A', c', s⟩ ⟨⟨hm, h1, h2, h3, h4⟩, k1, k2, k3, k4⟩
  dsimp only at hm h1 h2 h3 h4 k1 k2 k3 k4
  refine ⟨⟨h1, k1, by first | omega | (simp only; omega), by first | omega | (simp only; omega), ?_, ?_⟩, ?_, h4, k4, k2⟩
  ·intro x hx
   rcases List.mem_cons.1 hx with rfl | hx
   ·have := hm.1
    first | omega | (simp only; omega)
   ·have := (h2 x hx).1; omega
  ·intro x hx
   have := k2 x hx
   unfold maxLen
   omega
  ·intro x hx
   rcases List.mem_cons.1 hx with rfl | hx
   ·exact hm
   ·exact h2 x hx)
theorem opens_releases (w : World) (B : Nat) (hB : B ≤ 1099511627776) : Opens Tryz.prog w B 22 (encSl (α := RelA)) (SlOk w B 6 encR (inR w B)) :=
 opens_slice Tryz.underlying22 (by kernel_rfl) (by decide) encR_len (opens_release w B hB)
section
variable {H : Type} {en : TypeId × Value → H} {r : Go.Reach} {b0 : Nat} {sp : Nat → Bool} {held : Bool} {v : Value} {d : DataW H} {p : List MemPlace} {w : World}
set_option maxRecDepth 100000 in
theorem open_sl {α : Type} {t e : TypeId} {B k : Nat} {enc : α → List Value} {OK : α → Prop} (ht : Tryz.prog.underlying t = some (.slice e)) (ho : Opens Tryz.prog w B t (encSl (α := α)) (SlOk w B k enc OK)) (hv : Value.okWide Tryz.prog w r b0 t v) (h : DataW.Trod en Tryz.prog w 0 sp held t v d p) (hB : Rows.uptoBulk d ≤ B) :
  ∃ A c l, v = .slice A l.length c ∧ Sl w w.heap.size k enc A l ∧ (∀ y ∈ l, OK y) ∧ l.length ≤ c ∧ l.length ≤ B := by
 obtain ⟨a, len, cap, rfl⟩ := okWide_slice ht hv
 obtain ⟨fuel, h⟩ := h
 obtain ⟨⟨A, c, l⟩, e, h1, h2, h3, h4⟩ := ho _ _ _ _ _ _ _ h hB
 simp [Value.cells, encSl] at e
 obtain ⟨e1, e2, e3⟩ := e
 exact ⟨A, c, l, by rw [e1, e2, e3], h1, h2, h3, h4⟩
set_option maxRecDepth 100000 in
theorem open_st {α : Type} {t : TypeId} {fs : Array Field} {B : Nat} {enc : α → List Value} {OK : α → Prop} (ht : Tryz.prog.underlying t = some (.struct fs)) (ho : Opens Tryz.prog w B t enc OK) (hv : Value.okWide Tryz.prog w r b0 t v) (h : DataW.Trod en Tryz.prog w 0 sp held t v d p) (hB : Rows.uptoBulk d ≤ B) :
  ∃ y, v = .agg (enc y).toArray ∧ OK y := by
 obtain ⟨cs, rfl, _⟩ := okWide_struct ht hv
 obtain ⟨fuel, h⟩ := h
 obtain ⟨y, e, hy⟩ := ho _ _ _ _ _ _ _ h hB
 have e' : cs.toList = enc y := e
 exact ⟨y, by rw [← e'], hy⟩
end
theorem bulk_of {H : Type} {ds : List (DataW H)} (hk : Rows.uptoSmall H ds = true) : Rows.uptoBulkAll ds ≤ 1048576 := of_decide_eq_true hk
end Go.Proofs.YthcgihgajdjfoaaGreatDoor
namespace Go.Proofs.YthcgihgajdjfoaaGreatDoor
open Go.ChangeShapes Go.WideShapes Go.ChangeAt Go.RowKit
theorem own : ownKnob Tryz.prog.godebug = none := by kernel_rfl
section
variable {H : Type} {enc : TypeId × Value → H} {P : Program}
theorem post_of_below {f : Func} {s : ChangeSpec} {apart fresh handsOn again : Bool} {W W' : World} {args : Array Value} {v : Value} {ds gs : List (DataW H)} {before pa pv : List MemPlace}
  (hW : DataW.Whole enc P f.params.toList s.vars apart W args.toList ds gs before)
  (hres : ∀ (b : Nat) (sp : Nat → Bool) (hd : Bool), DataW.TrodAll enc P W' b sp hd f.resultTypes.toList (v.resultList f.resultTypes.size) (s.fn H (ds ++ gs)).results [])
  (hargs : ∀ sp : Nat → Bool, (∀ p ∈ before, sp p.block = true) → DataW.TrodAll enc P W' 0 sp true f.params.toList args.toList (s.fn H (ds ++ gs)).args pa)
  (hvars : ∀ sp : Nat → Bool, (∀ p ∈ before, sp p.block = true) → DataW.TrodVars enc P W' sp s.vars (s.fn H (ds ++ gs)).vars pv)
  (hps : before = pa ++ pv) (hb : Below W.heap.size W W')
  (hok : ∀ (j : Nat) (t : TypeId) (r : Value), f.resultTypes[j]? = some t → (v.resultList f.resultTypes.size)[j]? = some r → Value.okWide P W' .any 0 t r) :
  s.post enc P f apart fresh handsOn again W args v W' := by
 have hlt : ∀ p ∈ before, p.block < W.heap.size := fun p hp => hW.lt p hp
 have hold : ∀ p ∈ before, (fun b => decide (b < W.heap.size)) p.block = true := fun p hp => by simpa using hlt p hp
 refine ⟨ds, gs, before, [], pa, pv, hW, hres _ _ _, hargs _ hold, hvars _ hold, World.keptBut_mono (fun p hp => ⟨hp, ?_⟩) (hb.frame (· ∈ before)), fun _ => ?_⟩
 ·rw [hps, List.mem_append] at hp
  exact Or.inr hp
 ·obtain ⟨_, _, _, _, _, hz, hn⟩ := hW
  refine ⟨hok, _, _, ([] ++ pa) ++ pv, ⟨[] ++ pa, pv, trodAll_append (hargs _ (fun _ _ => rfl)) (hres _ _ _), hvars _ (fun _ _ => rfl), rfl, ?_, ?_⟩, ?_⟩
  ·intro b off hp
   have hin : MemPlace.cell b off ∈ before := by rw [hps]; simpa using hp
   rw [hb.frozen (hlt _ hin)]
   exact hz b off hin
  ·intro ha
   have := hn ha
   rw [hps] at this
   simpa using this
  ·intro p hp _
   rw [hps]
   simpa using hp
end
theorem gPowType : (Tryz.prog.globals[3]?).map (·.type) = some 271 := by kernel_rfl
theorem cellsPow : Tryz.prog.cellsOf 271 = 20 := by kernel_rfl
theorem cellsU64 : Tryz.prog.cellsOf 105 = 1 := by kernel_rfl
def laidL : List (String × DataW Unit) := Rows.vendorLocksRow.laid
theorem plainL {W : World} (h : laidMetH Tryz.prog laidL W) : laidMet Tryz.prog laidL W := by
 rwa [MakeChecks.laidMetH_plain _ _ _ (by kernel_rfl)] at h
theorem gErr : Tryz.prog.globalNamed "strconv.ErrSyntax" = some 1 := by kernel_rfl
theorem gErrType : (Tryz.prog.globals[1]?).map (·.type) = some 177 := by kernel_rfl
theorem starErr : "*" ++ "errors.errorString" = "*errors.errorString" := by decide
theorem rowErr (u : TypeId) (h : Tryz.prog.typeName? 3 u = some "*errors.errorString") : u = 278 :=
 typeName_ptr_named (nm := "errors.errorString") (by rw [starErr]; kernel_rfl) (by kernel_rfl) (by decide) u (by rw [starErr]; exact h)
theorem cellsErr : Tryz.prog.cellsOf 280 = 1 := by kernel_rfl
theorem cellsStr : Tryz.prog.cellsOf 9 = 1 := by kernel_rfl
theorem glob_of {W : World} (h : laidMetH Tryz.prog laidL W) (hs : W.ShapedOpen Tryz.prog) : Glob W := by
 refine ⟨cell_of_shapedOpen_int (zero := #[.int .i64 0]) (t := 3) hs (of_decide_eq_true (by kernel_rfl)) (by kernel_rfl) rfl (by kernel_rfl) (by kernel_rfl) Tryz.underlying3, ?_,
  Lib.tabIs_of_head (k := .u64) (zs := Lib.pow10Tab) gPow gPowType Tryz.underlying271 Tryz.underlying105 cellsU64 cellsPow (laidMet.tail (laidMet.tail (plainL h)))⟩
 obtain ⟨a, s, hv, _, _, _⟩ := laid_sentinel (laidMet.tail (laidMet.tail (laidMet.tail (laidMet.tail (laidMet.tail (plainL h)))))) gErr gErrType Tryz.underlying177 rowErr Tryz.underlying278 Tryz.underlying280 rfl rfl Tryz.underlying9 cellsErr cellsStr
 exact ⟨_, _, by simpa using World.var?_cell gErr hv 0⟩
noncomputable def laidWorld (os : Os) : World := World.laidAll Tryz.prog os laidL
theorem laid_met (os : Os) (args : Array Value) : laidMetH Tryz.prog laidL ((laidWorld os).forCall (fun _ _ => 0) ⟨#[], args, []⟩).memory := by
 rw [MakeChecks.laidMetH_plain _ _ _ (by kernel_rfl)]
 exact laidMet_laidAll _ (by kernel_rfl) (by kernel_rfl)
end Go.Proofs.YthcgihgajdjfoaaGreatDoor
namespace Go.Proofs.YthcgihgajdjfoaaGreatDoor
open Go.ChangeShapes Go.WideShapes Go.ChangeAt Go.RowKit
theorem kids : Kids Tryz.prog (· < Tryz.prog.types.size) := kids_rows (by kernel_rfl) (by kernel_rfl)
def slicesWide (P : Program) : Bool := (List.range P.types.size).all fun t => match P.underlying t with
 | some (.slice e) => decide (0 < P.cellsOf e)
 | _ => true
theorem wide_of {P : Program} (h : slicesWide P = true) {t e : TypeId} (ht : t < P.types.size) (hu : P.underlying t = some (.slice e)) : 0 < P.cellsOf e := by
 have := (List.all_eq_true.1 h) t (List.mem_range.2 ht)
 rw [hu] at this
 simpa using this
theorem sliceW : slicesWide Tryz.prog = true := by kernel_rfl
section
variable {H : Type} {enc : TypeId × Value → H} {W W' : World}
theorem trod_stay {sp : Nat → Bool} {t : TypeId} {v : Value} {d : DataW H} {p : List MemPlace} (ht : t < Tryz.prog.types.size) (hb : Below W.heap.size W W') (h : DataW.Trod enc Tryz.prog W 0 (fun _ => true) true t v d p) (hs : ∀ q ∈ p, sp q.block = true) :
  DataW.Trod enc Tryz.prog W' 0 sp true t v d p := by
 obtain ⟨fuel, h⟩ := h
 exact ⟨fuel, DataW.trod_stays kids (fun ht hu => wide_of sliceW ht hu) (fun h => by cases h) ht h (fun q hq => hb.same (DataW.trod_lt _ _ _ _ h q hq)) hs⟩
theorem args_stay {sp : Nat → Bool} (hb : Below W.heap.size W W') : ∀ {ts : List TypeId} {vs : List Value} {ds : List (DataW H)} {p : List MemPlace}, (∀ t ∈ ts, t < Tryz.prog.types.size) → DataW.TrodAll enc Tryz.prog W 0 (fun _ => true) true ts vs ds p → (∀ q ∈ p, sp q.block = true) →
  DataW.TrodAll enc Tryz.prog W' 0 sp true ts vs ds p
 | [], [], [], p, _, h, _ => h
 | t :: ts, v :: vs, d :: ds, p, ht, ⟨p1, q1, h1, h2, he⟩, hs => by
   subst he
   exact ⟨p1, q1, trod_stay (ht t (by simp)) hb h1 (fun q hq => hs q (by simp [hq])), args_stay hb (fun x hx => ht x (by simp [hx])) h2 (fun q hq => hs q (by simp [hq])), rfl⟩
 | [], [], _ :: _, _, _, h, _ => h.elim
 | [], _ :: _, _, _, _, h, _ => h.elim
 | _ :: _, [], _, _, _, h, _ => h.elim
 | _ :: _, _ :: _, [], _, _, h, _ => h.elim
set_option maxRecDepth 100000 in
theorem law_post {f : Func} {s : ChangeSpec} {args : Array Value} {ds gs : List (DataW H)} {before : List MemPlace} {apart fresh handsOn again : Bool} (hW : DataW.Whole enc Tryz.prog f.params.toList s.vars apart W args.toList ds gs before) (hv : s.vars = []) (hf : (f.params.toList.all fun t => decide (t < Tryz.prog.types.size)) = true)
  (hr : f.resultTypes = #[4]) (hsr : (s.fn H ds).results = [.lit (.bool true)]) (hsa : (s.fn H ds).args = ds) (hsv : (s.fn H ds).vars = []) (hb : Below W.heap.size W W') : s.post enc Tryz.prog f apart fresh handsOn again W args (.bool true) W' := by
 have hW0 := hW
 obtain ⟨p, q, hA, hV, rfl, hfz, hnd⟩ := hW
 rw [hv] at hV
 obtain ⟨rfl, rfl⟩ := trodVars_none hV
 simp only [List.append_nil] at hW0 ⊢
 refine post_of_below (pa := p) (pv := []) hW0 ?_ ?_ ?_ (by simp) hb ?_
 ·intro b sp hd
  simp only [List.append_nil]
  rw [hsr, hr]
  exact trodAll_cons_mk (shut_bool Tryz.underlying4 _) trodAll_mk0
 ·intro sp hsp
  simp only [List.append_nil]
  rw [hsa]
  exact args_stay hb (fun t ht => by have := (List.all_eq_true.1 hf) t ht; simpa using this) hA hsp
 ·intro sp hsp
  simp only [List.append_nil]
  rw [hsv, hv]
  rfl
 ·exact ok_one hr rfl (okWide_bool_mk Tryz.underlying4 _)
end
end Go.Proofs.YthcgihgajdjfoaaGreatDoor
namespace Go.Proofs.YthcgihgajdjfoaaGreatDoor
open Go.ChangeShapes Go.WideShapes Go.ChangeAt Go.RowKit Go.Sort
theorem inR.relB {w : World} {r : RelA} (h : inR w 1048576 r) : RelB w r := ⟨h.ok, h.s, fun x hx => (h.q x hx).1⟩
theorem inR.relS {w : World} {r : RelA} (h : inR w 1048576 r) (hn : r.l.length ≤ 100) : RelS w r := ⟨h.ok, hn, fun m hm => h.m m hm⟩
theorem RelS.relM {w : World} {r : RelA} (h : RelS w r) : RelM w r :=
 ⟨h.ok, (h.b r.m (by simp)).ok, fun x hx => (h.b x (by simp [hx])).ok, Nat.le_trans h.n (by decide)⟩
theorem inW.manOk {w : World} {y : ManW} (h : inW w 1048576 y) (hn : y.2.2.2.length ≤ 100) : ManOk w w.heap.size y :=
 ⟨h.2.1, hn, fun m hm => by
  rcases List.mem_cons.1 hm with rfl | hm
  ·exact h.1
  ·exact h.2.2.1 m hm⟩
theorem ManOk.manS {w : World} {y : ManW} (h : ManOk w w.heap.size y) : ManS w y := ⟨h.1, Nat.le_trans h.2.1 (by decide)⟩
theorem ManOk.mods {w : World} {y : ManW} (h : ManOk w w.heap.size y) : ∀ x ∈ y.2.2.2, okMod x := fun x hx => (h.2.2 x (by simp [hx])).ok
theorem smallL.reqs {L : List RelA} (h : smallL L) : ∀ r ∈ L, r.l.length ≤ 100 := fun r hr => Nat.le_trans (h.2 r hr).m.n (by decide)
theorem smallL.rels {L : List RelA} {w : World} (h : smallL L) (hO : ∀ r ∈ L, inR w 1048576 r) : ∀ r ∈ L, RelS w r := fun r hr => (hO r hr).relS (h.reqs r hr)
theorem smallM.manOk {w : World} {y : ManW} (h : smallM y.1 y.2.2.2) (hO : inW w 1048576 y) : ManOk w w.heap.size y := hO.manOk (Nat.le_trans h.n (by decide))
theorem relS_of {w w' : World} {L Q : List RelA} {C : List Rel} (h : ∀ r ∈ L, RelS w r) (he : Q.map RelA.rel = C) (hs : ∀ c ∈ C, c ∈ L.map RelA.rel) (hq : ∀ q ∈ Q, RelOk w' q) : ∀ q ∈ Q, RelS w' q := fun q hm => by
 obtain ⟨r, hr, e⟩ := List.mem_map.1 (hs q.rel (he ▸ List.mem_map.2 ⟨q, hm, rfl⟩))
 have e1 : r.m = q.m := congrArg (·.1) e
 have e2 : r.l = q.l := congrArg (·.2.1) e
 exact ⟨hq q hm, e2 ▸ (h r hr).n, e1 ▸ e2 ▸ (h r hr).b⟩
theorem collected_bad {R : List Rel} {root : Mod} {l : List Mod} (h : ¬ (collectP R root l).2 = 0) : (collectP R root l).1 = [] := by
 unfold collectP at h ⊢
 by_cases h1 : ferr R ≠ 0
 ·rw [if_pos h1]
 ·rw [if_neg h1] at h ⊢
  by_cases h2 : (buildP (R.map manR) root l).2 ≠ 0
  ·rw [if_pos h2]
  ·rw [if_neg h2] at h
   exact absurd rfl h
theorem collected_len {R : List Rel} {root : Mod} {l : List Mod} : (collectP R root l).1.length ≤ R.length := by
 by_cases h0 : (collectP R root l).2 = 0
 ·obtain ⟨D, C, hC⟩ := collected h0
  rw [hC.eq]
  exact hC.len
 ·rw [collected_bad h0]
  exact Nat.zero_le _
theorem collected_sub {R : List Rel} {root : Mod} {l : List Mod} {c : Rel} (h : c ∈ (collectP R root l).1) : c ∈ R := by
 by_cases h0 : (collectP R root l).2 = 0
 ·obtain ⟨D, C, hC⟩ := collected h0
  rw [hC.eq] at h
  exact hC.sub c h
 ·rw [collected_bad h0] at h
  cases h
end Go.Proofs.YthcgihgajdjfoaaGreatDoor
namespace Go.Proofs.YthcgihgajdjfoaaGreatDoor
theorem and2 {a b : Bool} (ha : a = true) (hb : b = true) : (a && b) = true := by rw [ha, hb]; rfl
set_option maxRecDepth 100000 in
theorem pf_laid : laidOutB Tryz.pinned.checked.prog = true := by kernel_rfl
set_option maxRecDepth 100000 in
theorem pf_rowed : mapsRowed Tryz.pinned.checked.prog = true := by kernel_rfl
set_option maxRecDepth 100000 in
theorem pf_heard : Tryz.pinned.checked.prog.stopsHeard = true := by kernel_rfl
set_option maxRecDepth 100000 in
theorem pf_enter : Tryz.pinned.checked.prog.mayEnter = true := by kernel_rfl
set_option maxRecDepth 100000 in
theorem pf_lifts (c : OpenClaim) (h : c.lifted = Rows.vendorLocksUptoRow.lifted) : (c.lifted == Tryz.pinned.checked.prog.liftsFinal) = true := by rw [h]; kernel_rfl
set_option maxRecDepth 100000 in
theorem pf_make (c : OpenClaim) (h : c.make = Rows.vendorLocksUptoRow.make) : (Tryz.pinned.checked.prog.make == some c.make) = true := by rw [h]; kernel_rfl
end Go.Proofs.YthcgihgajdjfoaaGreatDoor
namespace Go.Proofs.YthcgihgajdjfoaaGreatDoor
open Go.RowKit Go.Sort
theorem rdiff_len (L : List Rel) (E : List EntV) : (rdiffP L E).length ≤ E.length + L.length := by
 unfold rdiffP
 rw [List.length_append]
 exact Nat.add_le_add (List.length_filterMap_le _ _) (List.length_filterMap_le _ _)
theorem absStep_len (L : List Rel) (rp : List UInt8) : ∀ (q : List Mod) (S : List (List UInt8)), (q.foldl (absStep L rp) S).length ≤ S.length + q.length
 | [], S => Nat.le_refl _
 | m :: q, S => by
   have h : (absStep L rp S m).length ≤ S.length + 1 := by
    unfold absStep
    split
    ·simp
    ·omega
   have := absStep_len L rp q (absStep L rp S m)
   rw [List.foldl_cons, List.length_cons]
   omega
theorem out_len (rp : List UInt8) (rl : List Mod) (L : List Rel) : (outR rp rl L).length ≤ L.length + (reqsP rl L).length := by
 rw [← (out_perm rp rl L).length_eq]
 unfold outP
 rw [List.length_append, List.length_map]
 have := absStep_len L rp (reqsP rl L) []
 exact Nat.add_le_add (List.length_filterMap_le _ _) (by unfold absP; simpa using this)
theorem reqs_len {rl : List Mod} (h : rl.length ≤ 1000) : ∀ {L : List Rel}, (∀ r ∈ L, r.2.1.length ≤ 1000) → (reqsP rl L).length ≤ 1000 + 1000 * L.length
 | [], _ => by simpa [reqsP] using h
 | r :: L, hL => by
   have h1 := reqs_len h (L := L) fun q hq => hL q (by simp [hq])
   have h2 := hL r (by simp)
   unfold reqsP at h1 ⊢
   simp only [List.flatMap_cons, List.length_append, List.length_cons] at h1 ⊢
   omega
theorem verify_len (rp : List UInt8) (rl : List Mod) (L : List Rel) (s : List UInt8) : (verifyP rp rl L s).length ≤ 1 + (rdiffP L (unlockP s).1).length + (outR rp rl L).length := by
 have h := (isort_perm (rdiffP L (unlockP s).1)).length_eq
 unfold verifyP
 repeat' split
 all_goals first | (simp; omega) | (simp only [h]; omega) | omega
set_option maxRecDepth 100000 in
set_option maxHeartbeats 2000000 in
theorem samI_any (A1 : Option Addr) (c1 : Nat) (A2 : Option Addr) (c2 : Nat) (l : List Iss) (w : World) (h1 : Sl w w.heap.size 2 encI A1 l) (h2 : Sl w w.heap.size 2 encI A2 l) (hl : l.length ≤ 1099511627776) :
  Calls Tryz.prog 21 #[.slice A1 l.length c1, .slice A2 l.length c2] w fun e w' => e = .returned (.bool true) ∧ Below w.heap.size w w' := by
 have H1 := Lib.hid h1
 have H2 := Lib.hid h2
 clear h1 h2
 go_enter Tryz.func21, Tryz.ntmps21
 go_wp2
 go_loopw [5] (fun i wr => ∃ k : Nat, k ≤ l.length ∧ i = .int .i64 (k : Nat) ∧ Hid (Below w.heap.size w wr)) (fun i _ => l.length - (intOf i).toNat)
 case atStart => exact ⟨0, Nat.zero_le _, rfl, Lib.hid (Below.refl _ _)⟩
 case round =>
  obtain ⟨k, hk, rfl, HB⟩ := hrel
  by_cases hlt : k < l.length
  ·have hlt' : (k : Int) < (l.length : Int) := by omega
   have hk0 : (0 : Int) ≤ (k : Int) := by omega
   obtain ⟨b, o, rfl, _, g0, g1⟩ := ((H1.out.below HB.out).more HB.out.size).iss hlt
   obtain ⟨b', o', rfl, _, f0, f1⟩ := ((H2.out.below HB.out).more HB.out.size).iss hlt
   generalize l[k] = x at g0 g1 f0 f1
   go_upto_region 6 with fail
   go_quiet (fail)
   go_wp2
   go_roundw
   case rel => exact ⟨k + 1, by omega, by go_num, Lib.hid (HB.out.drewN _)⟩
   case measure => simp [intOf]; omega
  ·obtain rfl : k = l.length := by omega
   have hlt' : ¬ (l.length : Int) < (l.length : Int) := by omega
   go_wp2
   go_ret
   exact ⟨rfl, HB.out⟩
end Go.Proofs.YthcgihgajdjfoaaGreatDoor
