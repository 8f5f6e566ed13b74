/- A range over a function whose iterator keeps its state in one cell of its own, and hands over values that lie in memory: the caller's law. -/
import Derived.Test.YtbbdoibmcmkmnaaGreatDoorMem2
import Derived.RangeFuncFrom
import Derived.RangeFuncBox
namespace Go.Proofs.YtbbdoibmcmkmnaaGreatDoor
open Go.RowKit

/-- the contract of an iterator that writes its own cell: the caller's invariant abides that -/
def SeqCell {α : Type} (F : Fence) (n : Nat) (P : Program) (g : Nat) (lb : Array Value) (encs : α → Array Value) (R : α → World → Prop) (Kp : World → World → Prop) (Bs : Nat) (S Sp : List α → Prop) (N : Nat) (w : World) : Prop :=
  ∀ (l : Nat) (J Jx : List α → World → Prop) (W : World), Below w.heap.size w W → AbidesFrom W.heap.size J → AbidesFrom W.heap.size Jx →
    (∀ s W v, J s W → J s (W.setCell ⟨Bs, 0, none⟩ v)) →
    (∀ pre x W1, J pre W1 → R x W1 → pre.length < N → YieldAt F (n - 1) P l (encs x) W1 fun e W' =>
      (e = .returned (.bool true) ∧ J (pre ++ [x]) W' ∧ Kp W1 W') ∨ (e = .returned (.bool false) ∧ Jx (pre ++ [x]) W')) →
    J [] W →
    CallsIn F n P g (#[.func (.yield l) #[] #[]] ++ lb) W fun e W' => (∃ v, e = .returned v) ∧ ((∃ xs, S xs ∧ J xs W') ∨ (∃ pre, Sp pre ∧ Jx pre W'))

set_option maxHeartbeats 1000000 in
theorem wpIn_range_cell {α : Type} {F : Fence} {n : Nat} {P : Program} {g : Operand} {ps : Array Tmp} {assign body : Code} {Q : Exit → Act → World → Prop} {a : Act} {w : World}
    (hro : F.round = none) (h1 : 1 ≤ n) {gf : Nat} {lb : Array Value} (hg : a.eval g = .func (.func gf) #[] lb) (hFg : F.fn gf) (eg : ∀ args w, (callFunc gf args).run P w = .ok (.enter gf args) w)
    {encs : α → Array Value} {R : α → World → Prop} {Kp : World → World → Prop} {Bs : Nat} {S Sp : List α → Prop} {N : Nat} (hseq : SeqCell F (n - 1) P gf lb encs R Kp Bs S Sp N w) (hBs : Bs < w.heap.size)
    (hKt : ∀ {A B C : World}, Kp A B → Kp B C → Kp A C) (hKb : ∀ (W : World) (l : Nat) (o o' : Obj), w.heap.size ≤ l → W.heap[l]? = some o → o.isCells = false → Kp W (W.putObj l o'))
    (hR : ∀ x W l o o', W.heap[l]? = some o → o.isCells = false → R x W → R x (W.putObj l o')) (hps : ∀ x, (encs x).size = ps.size)
    (I : List α → World → Prop) (Ix : Code → List α → World → Prop) (hI : OwnFrom w.heap.size I) (hIx : ∀ c, OwnFrom w.heap.size (Ix c)) (hIs : ∀ s W v, I s W → I s (W.setCell ⟨Bs, 0, none⟩ v)) (h0 : I [] w) (a₁ : α → Act)
    (hassign : ∀ (l : Nat) (x : α) (W : World) (K : Act → World → Prop), K (a₁ x) W →
      assign.wpIn (F.inRound l) (n - 1 - 1) P (Exit.then K (fun _ _ _ => False)) { tmps := (ps.zip (encs x)).foldl (fun t (p, v) => t.setIfInBounds p v) a.tmps, defers := [] } W)
    (hbody : ∀ (l : Nat) (pre : List α) (x : α) (W : World), I pre W → R x W → pre.length < N → body.wpIn (F.inRound l) (n - 1 - 1) P (ownPostK Kp I Ix (pre ++ [x]) W) (a₁ x) W)
    (hdone : ∀ (D : Nat) (xs : List α) (W : World), w.heap.size ≤ D → S xs → I xs W → W.heap[D]? = some (.deferred (some [])) → Q .normal { a with defers := { target := .collected D, args := #[] } :: a.defers } W)
    (hstop : ∀ (D : Nat) (c : Code) (pre : List α) (W : World), w.heap.size ≤ D → Sp pre → Ix c pre W → W.heap[D]? = some (.deferred (some [])) → c.wpIn F n P Q { a with defers := { target := .collected D, args := #[] } :: a.defers } W) :
    (Code.rangeFunc g ps assign body).wpIn F n P Q a w := by
  refine wpIn_rangeFunc fun fn hfn => ?_
  rw [hro]
  -- the loop's record, in each of its states
  let rc : LoopState → Option Code → Obj := fun st pe => .loop { state := st, pending := pe, fn, tmps := a.tmps, params := ps, assign, body, defers := w.heap.size }
  have hrc : ∀ st pe, rc st pe = .loop { state := st, pending := pe, fn, tmps := a.tmps, params := ps, assign, body, defers := w.heap.size } := fun _ _ => rfl
  generalize hL : w.heap.size + 1 = L
  generalize hV : (w.alloc (.deferred (some []))).alloc (rc .ready none) = V
  have vL : V.heap[L]? = some (rc .ready none) := by
    have := World.alloc_heap_new (w.alloc (.deferred (some []))) (rc .ready none)
    rwa [World.size_alloc, hV, hL] at this
  have vD : V.heap[w.heap.size]? = some (.deferred (some [])) := by
    rw [← hV]; exact (Below.heap_alloc _ _ _ (by simp)).trans (World.alloc_heap_new w _)
  have vI : I [] V := by rw [← hV]; exact hI.alloc _ (hI.alloc _ h0)
  have vB : Below w.heap.size w V := by rw [← hV]; exact ((Below.refl _ w).alloc (Nat.le_refl _) _).alloc (by simp) _
  have vS : V.heap.size = w.heap.size + 2 := by rw [← hV]; simp
  refine ⟨L, [{ target := .collected w.heap.size, args := #[] }], V, { target := .fn (.func gf) lb, args := #[.func (.yield L) #[] #[]] }, V, gf, #[.func (.yield L) #[] #[]] ++ lb, V, ?enter, ?res, ?leads, ?inv, fun _ => h1, ?call⟩
  case enter => rw [← hV, ← hL, hrc]; exact run_enterLoop_outer _ _ _ _ _
  case res =>
    simp only [resolve, hg]
    simp [go_sem]
  case leads => intro f' hf'; simp [Target.leads] at hf'; subst hf'; exact hFg
  case inv => simp [invoke, go_sem, eg]
  case call =>
    have far : ∀ {A : World} {row : Option Nat}, (∀ r, row = some r → V.heap.size ≤ r ∧ ∃ o : Obj, A.heap[r]? = some o ∧ o.isWalk = true) → (∀ r, row = some r → w.heap.size ≤ r ∧ ∃ o : Obj, A.heap[r]? = some o ∧ o.isCells = false) :=
      fun hr r e => by obtain ⟨hB, o, ho, hw⟩ := hr r e; exact ⟨by omega, o, ho, Obj.not_cells_of_walk hw⟩
    have other : ∀ (A : World) (v : Value) (j : Nat), Bs ≠ j → (A.setCell ⟨Bs, 0, none⟩ v).heap[j]? = A.heap[j]? := fun A v j hj => Below.heap_setCell A ⟨Bs, 0, none⟩ v j (fun e => hj e.symm)
    refine (hseq L
      (fun pre W => I pre W ∧ W.heap[L]? = some (rc .ready none) ∧ W.heap[w.heap.size]? = some (.deferred (some [])))
      (fun pre W => ∃ c, Ix c pre W ∧ W.heap[L]? = some (rc .done (some c)) ∧ W.heap[w.heap.size]? = some (.deferred (some [])))
      V vB
      (fun s A B row hs hg' hr => ⟨hI s A B row hs.1 hg' (far hr), (grownBy_keeps hg' (fun r e => (hr r e).2) hs.2.1 rfl).trans hs.2.1, (grownBy_keeps hg' (fun r e => (hr r e).2) hs.2.2 rfl).trans hs.2.2⟩)
      (fun s A B row hs hg' hr => by
        obtain ⟨c, hc, hl, hk⟩ := hs
        exact ⟨c, hIx c s A B row hc hg' (far hr), (grownBy_keeps hg' (fun r e => (hr r e).2) hl rfl).trans hl, (grownBy_keeps hg' (fun r e => (hr r e).2) hk rfl).trans hk⟩)
      (fun s A v hs => ⟨hIs s A v hs.1, (other A v L (by omega)).trans hs.2.1, (other A v _ (by omega)).trans hs.2.2⟩)
      ?round ⟨vI, vL, vD⟩).mono ?behind
    case round =>
      rintro pre x W ⟨hi, hl, hk⟩ hx hlen
      have hlt : L < W.heap.size := (Array.getElem?_eq_some_iff.1 hl).1
      have hy := run_yield (P := P) (args := encs x) hl (hps x)
      refine ⟨fn, _, assign, body, hy, roundIn_of_wpIn hfn (hassign _ x W _ ⟨_, run_beginRound hl rfl, ?_⟩)⟩
      have bL : (W.putObj L (rc .busy none)).heap[L]? = some (rc .busy none) := World.putObj_heap_same hlt
      have bD : (W.putObj L (rc .busy none)).heap[w.heap.size]? = some (.deferred (some [])) := (World.putObj_heap_other (by omega)).trans hk
      have bK : Kp W (W.putObj L (rc .busy none)) := hKb _ _ _ _ (by omega) hl rfl
      refine wpIn_mono (hbody _ pre x _ (hI.putObj _ hi (by omega) hl rfl) (hR _ _ _ _ _ hl rfl hx) hlen) ?_
      have fin : ∀ (jump : Option Code) (X : World), KeepsOthers (W.putObj L (rc .busy none)) X →
          (Instr.endRound L jump).run P X = .ok (.bool jump.isNone) (X.putObj L (rc (if jump.isNone then .ready else .done) jump)) ∧ X.heap[L]? = some (rc .busy none) ∧
          (X.putObj L (rc (if jump.isNone then .ready else .done) jump)).heap[L]? = some (rc (if jump.isNone then .ready else .done) jump) ∧
          (X.putObj L (rc (if jump.isNone then .ready else .done) jump)).heap[w.heap.size]? = some (.deferred (some [])) := fun jump X hX => by
        have hl3 := hX.same _ _ bL rfl
        exact ⟨run_endRound (P := P) jump hl3, hl3, World.putObj_heap_same (Array.getElem?_eq_some_iff.1 hl3).1, (World.putObj_heap_other (by omega)).trans (hX.same _ _ bD rfl)⟩
      have leave : ∀ (c : Code) (X : World), KeepsOthers (W.putObj L (rc .busy none)) X → Ix c (pre ++ [x]) X → ∃ c', Ix c' (pre ++ [x]) (X.putObj L (rc .done (some c))) ∧ (X.putObj L (rc .done (some c))).heap[L]? = some (rc .done (some c')) ∧ (X.putObj L (rc .done (some c))).heap[w.heap.size]? = some (.deferred (some [])) := fun c X hX hi3 => by
        obtain ⟨_, hl3, hl4, hk4⟩ := fin (some c) X hX
        exact ⟨c, (hIx _).putObj _ hi3 (by omega) hl3 rfl, hl4, hk4⟩
      rintro e a3 X hp
      cases e with
      | normal =>
        obtain ⟨hX, hkp, hi3⟩ := hp
        obtain ⟨hr, hl3, hl4, hk4⟩ := fin none X hX
        exact ⟨_, _, hr, .inl ⟨rfl, ⟨hI.putObj _ hi3 (by omega) hl3 rfl, hl4, hk4⟩, hKt (hKt bK hkp) (hKb _ _ _ _ (by omega) hl3 rfl)⟩⟩
      | ret => exact ⟨_, _, (fin (some .ret) X hp.1).1, .inr ⟨rfl, leave _ X hp.1 hp.2⟩⟩
      | exit id => exact ⟨_, _, (fin (some (.exit id)) X hp.1).1, .inr ⟨rfl, leave _ X hp.1 hp.2⟩⟩
      | goto t => exact ⟨_, _, (fin (some (.goto t)) X hp.1).1, .inr ⟨rfl, leave _ X hp.1 hp.2⟩⟩
      | panic ch => exact hp.elim
      | outgrown => exact hp.elim
    case behind =>
      rintro e X ⟨⟨v, rfl⟩, (⟨xs, hS, hi, hl, hk⟩ | ⟨pre, hSp, c, hi, hl, hk⟩)⟩
      · exact ⟨none, _, run_endLoop (P := P) hl (by simp), hdone _ xs _ (Nat.le_refl _) hS (hI.putObj _ hi (by omega) hl rfl) ((World.putObj_heap_other (by omega)).trans hk)⟩
      · exact ⟨some c, _, run_endLoop (P := P) hl (by simp), hstop _ c pre _ (Nat.le_refl _) hSp ((hIx c).putObj _ hi (by omega) hl rfl) ((World.putObj_heap_other (by omega)).trans hk)⟩
end Go.Proofs.YtbbdoibmcmkmnaaGreatDoor
