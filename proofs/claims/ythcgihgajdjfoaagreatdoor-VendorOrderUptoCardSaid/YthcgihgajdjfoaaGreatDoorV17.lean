/- What the claim needs of: Fct. -/
import Derived.Test.YthcgihgajdjfoaaGreatDoorV1
import Derived.Test.YthcgihgajdjfoaaGreatDoorV2
import Derived.Orders
namespace Go.Proofs.YthcgihgajdjfoaaGreatDoor
open Go.RowKit
abbrev Fact := Value → World → Prop
def isv (u : Value) : Fact := fun v _ => v = u
def nof : Fact := fun _ _ => True
def MonoF (f : Fact) : Prop := ∀ v W W', f v W → Below W.heap.size W W' → f v W'
theorem isv_mono (u : Value) : MonoF (isv u) := fun _ _ _ h _ => h
theorem nof_mono : MonoF nof := fun _ _ _ h _ => h
def nth : List Value → Nat → Option Value
 | [], _ => none
 | v :: _, 0 => some v
 | _ :: l, n + 1 => nth l n
theorem nth_eq : ∀ (l : List Value) (n : Nat), nth l n = l[n]?
 | [], n => by simp [nth]
 | v :: l, 0 => by simp [nth]
 | v :: l, n + 1 => by simp [nth, nth_eq l n]
section
variable {P : Program}
def dstOf (ops : Array Oper) (i : Nat) : Option Tmp := (ops.toList[i]?).bind (·.dst)
def unwritten (ops : Array Oper) (x : Tmp) : Bool := ops.toList.all fun o => o.dst != some x
def waitsFor (ops : Array Oper) (j i : Nat) : Bool := match ops.toList[j]? with
 | some o => o.after.toList.any fun e => Region.binds .any e && e.on == i
 | none => false
def waitsN (ops : Array Oper) : Nat → Nat → Nat → Bool
 | 0, j, i => waitsFor ops j i
 | n + 1, j, i => waitsFor ops j i || match ops.toList[j]? with
   | some o => o.after.toList.any fun e => Region.binds .any e && waitsN ops n e.on i
   | none => false
def distinct : List (Option Tmp) → Bool
 | [] => true
 | none :: l => distinct l
 | some d :: l => (l.all fun x => x != some d) && distinct l
def byBool : Bool → Prop → Prop → Prop
 | true, X, _ => X
 | false, _, Y => Y
def isB (want : Bool) : Value → Bool
 | .bool b => b == want
 | _ => false
def OneOk (P : Program) (ops : Array Oper) (F : List Fact) (z : Nat) (w0 : World) (a : Act) (i : Nat) (o : Oper) (f : Fact) : Prop :=
 ∀ (A : Act) (W : World) (K : Act → World → Prop) (Q : Exit → Act → World → Prop), Below z w0 W →
   (∀ x v, unwritten ops x = true → nth a.tmps.toList x = some v → A.tmps[x]? = some v) →
   (∀ e d, waitsN ops 3 i e = true → dstOf ops e = some d → ∃ v, A.tmps[d]? = some v ∧ (F.getD e nof) v W) →
   (∀ j d v, (j == i || waitsN ops 3 j i) = true → dstOf ops j = some d → nth a.tmps.toList d = some v → A.tmps[d]? = some v) →
   (∀ v W', f v W' → Below W.heap.size W W' → K (A.put o.dst v) W') →
   match o.guard with
   | none => o.wp P A W K Q
   | some (g, want) => ∃ u d, dstOf ops g = some d ∧ A.tmps[d]? = some u ∧ byBool (isB want u) (o.wp P A W K Q) (f undef W)
def AllOk (P : Program) (ops : Array Oper) (F : List Fact) (z : Nat) (w0 : World) (a : Act) : Nat → List Oper → List Fact → Prop
 | i, o :: os, f :: fs => OneOk P ops F z w0 a i o f ∧ AllOk P ops F z w0 a (i + 1) os fs
 | _, [], [] => True
 | _, _, _ => False
def AllMono : List Fact → Prop
 | [] => True
 | f :: fs => MonoF f ∧ AllMono fs
def FinAll (W : World) (G : Act → Prop) : List Oper → List Fact → Act → Prop
 | o :: os, f :: fs, A => match o.dst with
   | none => FinAll W G os fs A
   | some d => ∀ v, f v W → FinAll W G os fs (A.put (some d) v)
 | _, _, A => G A
structure Held (ops : Array Oper) (F : List Fact) (z : Nat) (w0 : World) (a : Act) (L : Array Bool) (A : Act) (W : World) : Prop where
 size : L.size = ops.size
 below : Below z w0 W
 len : A.tmps.size = a.tmps.size
 defers : A.defers = a.defers
 same : ∀ x, unwritten ops x = true → A.tmps[x]? = a.tmps[x]?
 late : ∀ i d, L.getD i false = false → dstOf ops i = some d → A.tmps[d]? = a.tmps[d]?
 closed : ∀ i e, L.getD i false = true → waitsFor ops i e = true → L.getD e false = true
 fact : ∀ i d, L.getD i false = true → dstOf ops i = some d → ∃ v, A.tmps[d]? = some v ∧ (F.getD i nof) v W
theorem Held.closedN {ops : Array Oper} {F : List Fact} {z : Nat} {w0 : World} {a : Act} {L : Array Bool} {A : Act} {W : World} (h : Held ops F z w0 a L A W) : ∀ n i e, L.getD i false = true → waitsN ops n i e = true → L.getD e false = true
 | 0, i, e, hi, hw => h.closed i e hi hw
 | n + 1, i, e, hi, hw => by
   unfold waitsN at hw
   rcases Bool.or_eq_true _ _ ▸ hw with h1 | h1
   ·exact h.closed i e hi h1
   ·cases ho : ops.toList[i]? with
    | none => rw [ho] at h1; cases h1
    | some o =>
      rw [ho] at h1
      obtain ⟨x, hx, hy⟩ := List.any_eq_true.1 h1
      obtain ⟨h2, h3⟩ := Bool.and_eq_true _ _ ▸ hy
      refine h.closedN n x.on e (h.closed i x.on hi ?_) h3
      unfold waitsFor
      rw [ho]
      exact List.any_eq_true.2 ⟨x, hx, by simp [h2]⟩
theorem distinct_ne : ∀ {l : List Oper}, distinct (l.map (·.dst)) = true → ∀ {i j : Nat} {d : Tmp}, (l[i]?).bind (·.dst) = some d → (l[j]?).bind (·.dst) = some d → i = j
 | [], _, i, j, d, hi, _ => by simp at hi
 | o :: l, h, i, j, d, hi, hj => by
   have hall : ∀ {k : Nat}, o.dst = some d → (l[k]?).bind (·.dst) = some d → False := by
    intro k ho hk
    rw [List.map_cons, ho] at h
    simp only [distinct, Bool.and_eq_true, List.all_eq_true] at h
    cases hl : l[k]? with
    | none => rw [hl] at hk; cases hk
    | some o' =>
      rw [hl] at hk
      have := h.1 (some d) (List.mem_map.2 ⟨o', List.mem_of_getElem? hl, hk⟩)
      simp at this
   have hd : distinct (l.map (·.dst)) = true := by
    rw [List.map_cons] at h
    cases ho : o.dst with
    | none => rw [ho] at h; exact h
    | some x => rw [ho] at h; simp only [distinct, Bool.and_eq_true] at h; exact h.2
   cases i with
   | zero =>
     cases j with
     | zero => rfl
     | succ j => exact (hall (by simpa using hi) (by simpa using hj)).elim
   | succ i =>
     cases j with
     | zero => exact (hall (by simpa using hj) (by simpa using hi)).elim
     | succ j => exact congrArg Nat.succ (distinct_ne hd (by simpa using hi) (by simpa using hj))
theorem allOk_at {ops : Array Oper} {F : List Fact} {z : Nat} {w0 : World} {a : Act} : ∀ {os : List Oper} {fs : List Fact} {k : Nat}, AllOk P ops F z w0 a k os fs → ∀ {i : Nat} {o : Oper}, os[i]? = some o → ∃ f, fs[i]? = some f ∧ OneOk P ops F z w0 a (k + i) o f
 | [], fs, k, _, i, o, ho => by simp at ho
 | x :: os, [], k, h, i, o, ho => h.elim
 | x :: os, f :: fs, k, h, i, o, ho => by
   cases i with
   | zero =>
     simp only [List.getElem?_cons_zero, Option.some.injEq] at ho
     subst ho
     exact ⟨f, rfl, h.1⟩
   | succ i =>
     obtain ⟨g, h1, h2⟩ := allOk_at h.2 (i := i) (by simpa using ho)
     exact ⟨g, by simpa using h1, by rw [show k + (i + 1) = k + 1 + i by omega]; exact h2⟩
theorem allMono_at : ∀ {fs : List Fact}, AllMono fs → ∀ i, MonoF (fs.getD i nof)
 | [], _, i => by simpa using nof_mono
 | f :: fs, h, 0 => by simpa using h.1
 | f :: fs, h, i + 1 => by simpa using allMono_at h.2 i
theorem Held.put {ops : Array Oper} {F : List Fact} {z : Nat} {w0 : World} {a : Act} {L : Array Bool} {A : Act} {W W' : World} (hz : z ≤ w0.heap.size) (hmono : AllMono F) (hdis : distinct (ops.toList.map (·.dst)) = true) (h : Held ops F z w0 a L A W)
  {i : Nat} {o : Oper} (ho : ops[i]? = some o) (hd : (o.after.all fun e => !Region.binds .any e || L.getD e.on false) = true) (hsz : ∀ d, o.dst = some d → d < a.tmps.size) {v : Value}
  (hv : (F.getD i nof) v W') (hb : Below W.heap.size W W') : Held ops F z w0 a (L.setIfInBounds i true) (A.put o.dst v) W' := by
 have hi : i < ops.size := (Array.getElem?_eq_some_iff.1 ho).1
 have ho' : ops.toList[i]? = some o := by rw [Array.getElem?_toList]; exact ho
 have hdst : dstOf ops i = o.dst := by unfold dstOf; rw [ho']; rfl
 have hset : ∀ k, k ≠ i → (L.setIfInBounds i true).getD k false = L.getD k false := fun k hk => by
  simp [Array.getElem?_setIfInBounds_ne (Ne.symm hk)]
 have hput : ∀ x, o.dst ≠ some x → (A.put o.dst v).tmps[x]? = A.tmps[x]? := fun x hx => by
  cases hod : o.dst with
  | none => rfl
  | some d =>
    have hne : d ≠ x := fun e => hx (by rw [hod, e])
    simp [Act.put, Array.getElem?_setIfInBounds_ne hne]
 have hpi : ∀ d, o.dst = some d → (A.put o.dst v).tmps[d]? = some v := fun d hd => by
  have hlt : d < A.tmps.size := by rw [h.len]; exact hsz d hd
  rw [hd]
  simp [Act.put, hlt]
 refine ⟨by simpa using h.size, h.below.trans (hb.mono (Nat.le_trans hz h.below.size)), ?_, ?_, ?_, ?_, ?_, ?_⟩
 ·rw [← h.len]; cases o.dst <;> simp [Act.put]
 ·rw [← h.defers]; cases o.dst <;> simp [Act.put]
 ·intro x hx
  rw [hput x ?_, h.same x hx]
  intro hod
  unfold unwritten at hx
  rw [List.all_eq_true] at hx
  have := hx o (List.mem_of_getElem? ho')
  rw [hod] at this
  simp at this
 ·intro k d hk hkd
  have hki : k ≠ i := fun e => by
   subst e
   have : k < L.size := by rw [h.size]; exact hi
   simp [this] at hk
  rw [hset k hki] at hk
  rw [hput d (fun hod => hki ?_), h.late k d hk hkd]
  exact distinct_ne hdis hkd (show (ops.toList[i]?).bind (·.dst) = some d by rw [ho']; exact hod)
 ·intro k e hk hke
  by_cases he : e = i
  ·subst he
   have : e < L.size := by rw [h.size]; exact hi
   simp [this]
  ·rw [hset e he]
   by_cases hki : k = i
   ·subst hki
    unfold waitsFor at hke
    rw [ho'] at hke
    obtain ⟨x, hx, hy⟩ := List.any_eq_true.1 hke
    obtain ⟨h1, h2⟩ := Bool.and_eq_true _ _ ▸ hy
    rw [Array.all_eq_true'] at hd
    have h3 := hd x (by simpa using hx)
    rw [h1] at h3
    have h4 : x.on = e := by simpa using h2
    rw [h4] at h3
    simpa using h3
   ·rw [hset k hki] at hk
    exact h.closed k e hk hke
 ·intro k d hk hkd
  by_cases hki : k = i
  ·subst hki
   exact ⟨v, hpi d (hdst ▸ hkd), hv⟩
  ·rw [hset k hki] at hk
   obtain ⟨u, h1, h2⟩ := h.fact k d hk hkd
   refine ⟨u, ?_, allMono_at hmono k _ _ _ h2 hb⟩
   rw [hput d (fun hod => hki ?_), h1]
   exact distinct_ne hdis hkd (show (ops.toList[i]?).bind (·.dst) = some d by rw [ho']; exact hod)
theorem finAll_of {W : World} {G : Act → Prop} {A : Act} : ∀ (os : List Oper) (fs : List Fact) (B : Act), os.length = fs.length → FinAll W G os fs B → A.tmps.size = B.tmps.size → A.defers = B.defers →
  (∀ i d, (os[i]?).bind (·.dst) = some d → ∃ v, A.tmps[d]? = some v ∧ (fs.getD i nof) v W) → (∀ x, (os.all fun o => o.dst != some x) = true → A.tmps[x]? = B.tmps[x]?) → G A
 | [], fs, B, _, hG, hs, hdf, _, hsame => by
   have : A = B := by
    obtain ⟨t, d⟩ := A
    obtain ⟨t', d'⟩ := B
    simp only at hs hdf hsame
    have e : t = t' := Array.ext_getElem? fun i => hsame i (by simp)
    rw [e, hdf]
   subst this
   cases fs <;> exact hG
 | o :: os, [], B, hl, _, _, _, _, _ => by simp at hl
 | o :: os, f :: fs, B, hl, hG, hs, hdf, hfact, hsame => by
   unfold FinAll at hG
   cases hd : o.dst with
   | none =>
     rw [hd] at hG
     refine finAll_of os fs B (by simpa using hl) hG hs hdf (fun i d h => ?_) (fun x hx => hsame x ?_)
     ·exact hfact (i + 1) d (by simpa using h)
     ·rw [List.all_cons, hx, hd]; rfl
   | some d =>
     rw [hd] at hG
     obtain ⟨v, h1, h2⟩ := hfact 0 d (by simpa using hd)
     refine finAll_of os fs _ (by simpa using hl) (hG v (by simpa using h2)) (by simpa [Act.put] using hs) (by simpa [Act.put] using hdf) (fun i d h => hfact (i + 1) d (by simpa using h)) (fun x hx => ?_)
     by_cases hxd : d = x
     ·subst hxd
      have hlt : d < B.tmps.size := by rw [← hs]; exact (Array.getElem?_eq_some_iff.1 h1).1
      rw [h1]
      simp [Act.put, hlt]
     ·rw [hsame x (by rw [List.all_cons, hx, hd]; simp [hxd])]
      simp [Act.put, Array.getElem?_setIfInBounds_ne hxd]
def dstLt (ops : Array Oper) (n : Nat) : Bool := ops.toList.all fun o => match o.dst with | some d => decide (d < n) | none => true
variable {ops : Array Oper} {Q : Exit → Act → World → Prop}
theorem wp_region_facts {id : Nat} {a : Act} {w : World} (hm : P.follows .mixedOrders = true) (F : List Fact) (z : Nat) (w0 : World) (hz : z ≤ w0.heap.size) (hw : Below z w0 w.drew)
  (hdis : distinct (ops.toList.map (·.dst)) = true) (hlt : dstLt ops a.tmps.size = true) (hwf : wfOps ops = true)
  (hmono : AllMono F) (steps : AllOk P ops F z w0 a 0 ops.toList F) (hlen : ops.toList.length = F.length)
  (fin : ∀ W, Below z w0 W → FinAll W (fun A => Q .normal A W) ops.toList F a) : (Code.region id ops true).wp P Q a w := by
 refine wp_region_each hm (Held ops F z w0 a) (fun L A W h => h.size) ?_ ?_ hwf ?_
 ·refine ⟨by simp, hw, rfl, rfl, fun _ _ => rfl, fun _ _ _ _ => rfl, fun i e h _ => ?_, fun i d h _ => ?_⟩
  all_goals
   exfalso
   simp only [Array.getD_eq_getD_getElem?, Array.getElem?_replicate] at h
   split at h <;> simp at h
 ·intro i o ho L A W hL hdep hI
  have ho' : ops.toList[i]? = some o := by rw [Array.getElem?_toList]; exact ho
  have hi : i < ops.size := (Array.getElem?_eq_some_iff.1 ho).1
  have hLi : L.getD i false = false := by
   have : i < L.size := by rw [hI.size]; exact hi
   simpa [this] using hL
  obtain ⟨f, hf, h1⟩ := allOk_at steps ho'
  rw [Nat.zero_add] at h1
  have hfD : F.getD i nof = f := by rw [List.getD_eq_getElem?_getD, hf]; rfl
  have hsz : ∀ d, o.dst = some d → d < a.tmps.size := fun d hd => by
   have := (List.all_eq_true.1 hlt) o (List.mem_of_getElem? ho')
   rw [hd] at this
   simpa using this
  have hput : ∀ v W', f v W' → Below W.heap.size W W' → Held ops F z w0 a (L.setIfInBounds i true) (A.put o.dst v) W' := fun v W' hv hb =>
   hI.put hz hmono hdis ho hdep hsz (by rw [hfD]; exact hv) hb
  have hdirect : ∀ e, waitsFor ops i e = true → L.getD e false = true := fun e he => by
   unfold waitsFor at he
   rw [ho'] at he
   obtain ⟨x, hx, hy⟩ := List.any_eq_true.1 he
   obtain ⟨h2, h3⟩ := Bool.and_eq_true _ _ ▸ hy
   rw [Array.all_eq_true'] at hdep
   have h4 := hdep x (by simpa using hx)
   rw [h2] at h4
   have h5 : x.on = e := by simpa using h3
   rw [h5] at h4
   simpa using h4
  have hdirN : ∀ n e, waitsN ops n i e = true → L.getD e false = true := fun n e he => by
   cases n with
   | zero => exact hdirect e he
   | succ n =>
     unfold waitsN at he
     rcases Bool.or_eq_true _ _ ▸ he with h2 | h2
     ·exact hdirect e h2
     ·rw [ho'] at h2
      obtain ⟨x, hx, hy⟩ := List.any_eq_true.1 h2
      obtain ⟨h3, h4⟩ := Bool.and_eq_true _ _ ▸ hy
      refine hI.closedN n x.on e (hdirect x.on ?_) h4
      unfold waitsFor
      rw [ho']
      exact List.any_eq_true.2 ⟨x, hx, by simp [h3]⟩
  have h2 := h1 A W (Held ops F z w0 a (L.setIfInBounds i true)) Q hI.below
   (fun x v hx hv => by rw [hI.same x hx, ← Array.getElem?_toList, ← nth_eq]; exact hv)
   (fun e d he hd => hI.fact e d (hdirN 3 e he) hd)
   (fun j d v hj hd hv => by
    rw [hI.late j d ?_ hd, ← Array.getElem?_toList, ← nth_eq]
    ·exact hv
    ·rcases Bool.or_eq_true _ _ ▸ hj with h3 | h3
     ·have : j = i := by simpa using h3
      subst this
      exact hLi
     ·cases hlj : L.getD j false with
      | false => rfl
      | true => rw [hI.closedN 3 j i hlj h3] at hLi; cases hLi)
   hput
  unfold Region.wanted
  cases hg : o.guard with
  | none =>
    rw [hg] at h2
    simp only [if_true]
    exact .inl h2
  | some gw =>
    obtain ⟨g, want⟩ := gw
    rw [hg] at h2
    obtain ⟨u, d, h3, h4, h5⟩ := h2
    have hy : (yielded ops A.tmps g == some want) = isB want u := by
     unfold yielded
     unfold dstOf at h3
     rw [← Array.getElem?_toList, h3]
     simp only [Option.bind_some, h4]
     cases u <;> first | rfl | (rename_i b; cases b <;> cases want <;> rfl)
    simp only [hy]
    cases hbb : isB want u with
    | true =>
      rw [hbb] at h5
      simp only [if_true]
      exact .inl h5
    | false =>
      rw [hbb] at h5
      simp only [Bool.false_eq_true, if_false]
      exact hput _ _ h5 (Below.refl _ _)
 ·intro L A W hr hI
  have hall : ∀ i d, (ops.toList[i]?).bind (·.dst) = some d → ∃ v, A.tmps[d]? = some v ∧ (F.getD i nof) v W := fun i d hd => by
   refine hI.fact i d (hr i ?_) hd
   cases ho : ops.toList[i]? with
   | none => rw [ho] at hd; cases hd
   | some o => have := (List.getElem?_eq_some_iff.1 ho).1; simpa using this
  exact finAll_of (A := A) ops.toList F a hlen (fin W hI.below) hI.len hI.defers hall hI.same
theorem fin_isv {W : World} {G : Act → Prop} {o : Oper} {os : List Oper} {u : Value} {fs : List Fact} {A : Act} (d : Tmp) (hd : o.dst = some d) (h : FinAll W G os fs (A.put (some d) u)) : FinAll W G (o :: os) (isv u :: fs) A := by
 unfold FinAll
 rw [hd]
 intro v hv
 obtain rfl : v = u := hv
 exact h
theorem fin_fact {W : World} {G : Act → Prop} {o : Oper} {os : List Oper} {f : Fact} {fs : List Fact} {A : Act} (d : Tmp) (hd : o.dst = some d) (h : ∀ v, f v W → FinAll W G os fs (A.put (some d) v)) : FinAll W G (o :: os) (f :: fs) A := by
 unfold FinAll
 rw [hd]
 exact h
theorem fin_end {W : World} {A A' : Act} {fs : List Fact} (h : A = A') (hq : Q .normal A' W) : FinAll W (fun A => Q .normal A W) [] fs A := by
 subst h
 exact hq
end
end Go.Proofs.YthcgihgajdjfoaaGreatDoor
