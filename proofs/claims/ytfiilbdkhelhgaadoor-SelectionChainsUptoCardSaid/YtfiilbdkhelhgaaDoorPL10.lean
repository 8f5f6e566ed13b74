/- Plain: the chain of requirements is a chain. -/
import Derived.Test.YtfiilbdkhelhgaaDoorPL8
namespace Go.Proofs.YtfiilbdkhelhgaaDoor
open Go.RowKit Go.Sort

theorem round_inv {R : Regy} {l : List Mod} {k : Nat} {p : Mod} {F : List (Mod × Mod)} (hI : BInv R l F) (hC : Closed R l k F) (hk : (todoF (msort l) F)[k]? = some p) :
    BInv R l (bfsRound R (msort l) p F) ∧ Closed R l (k + 1) (bfsRound R (msort l) p F) ∧ ∃ X, todoF (msort l) (bfsRound R (msort l) p F) = todoF (msort l) F ++ X := by
  have hp : p ∈ todoF (msort l) F := List.mem_of_getElem? hk
  have h : ∀ q, q ≤ (msort (reqOf R p)).length → ∃ F', InnerI R l k p F q F' := by
    intro q
    induction q with
    | zero => exact fun _ => ⟨F, InnerI.start hI⟩
    | succ q ih =>
      intro hq
      obtain ⟨F', hF⟩ := ih (by omega)
      exact ⟨_, hF.step hp (by omega)⟩
  obtain ⟨F', hF⟩ := h _ (Nat.le_refl _)
  obtain ⟨h1, h2⟩ := hF.done hC hk
  rw [← h1]
  exact ⟨hF.inv, h2, hF.pre⟩
theorem bfs_inv {R : Regy} {l : List Mod} {g : Mod} : ∀ (n k : Nat) (F : List (Mod × Mod)), BInv R l F → Closed R l k F → k ≤ (todoF (msort l) F).length → l.length + (univ R l).length + 1 ≤ k + n →
    BInv R l (bfs R (msort l) g n k F) ∧ (Reach R l g → g ∈ todoF (msort l) (bfs R (msort l) g n k F))
  | 0, k, F, hI, _, hk, hn => by
    have := hI.len.2
    omega
  | n + 1, k, F, hI, hC, hk, hn => by
    cases ht : (todoF (msort l) F)[k]? with
    | none =>
      rw [bfs_end ht]
      have hkl := List.getElem?_eq_none_iff.1 ht
      obtain rfl : k = (todoF (msort l) F).length := by omega
      exact ⟨hI, fun hg => hC.all hg⟩
    | some p =>
      by_cases hpg : p = g
      · subst hpg
        rw [bfs_hit ht]
        exact ⟨hI, fun _ => List.mem_of_getElem? ht⟩
      · rw [bfs_step ht hpg]
        obtain ⟨h1, h2, X, h3⟩ := round_inv hI hC ht
        refine bfs_inv n (k + 1) _ h1 h2 ?_ (by omega)
        have hlt := (List.getElem?_eq_some_iff.1 ht).1
        rw [h3, List.length_append]
        omega
/-- a chain that ends with g -/
inductive Chn (R : Regy) (g : Mod) : List Mod → Prop
  | one : Chn R g [g]
  | cons {x y : Mod} {r : List Mod} : y ∈ reqOf R x → Chn R g (y :: r) → Chn R g (x :: y :: r)
theorem chainUp_ok {R : Regy} {l : List Mod} {g : Mod} {F : List (Mod × Mod)} (hI : BInv R l F) : ∀ (n : Nat) (x : Mod) (r : List Mod), x ∈ msort l ++ (F.map (·.1)).take n → Chn R g (x :: r) →
    ∃ y s, chainUp (msort l) F n (x :: r) = y :: s ∧ y ∈ l ∧ Chn R g (y :: s) := by
  intro n
  induction n with
  | zero =>
    intro x r hx hc
    rw [List.take_zero, List.append_nil] at hx
    rw [chain_end hx]
    exact ⟨x, r, rfl, msort_mem.1 hx, hc⟩
  | succ n ih =>
    intro x r hx hc
    by_cases hf : x ∈ msort l
    · rw [chain_end hf]
      exact ⟨x, r, rfl, msort_mem.1 hf, hc⟩
    · obtain ⟨n', p, hn, _, hp, hr, he⟩ := chain_step (r := r) hI hx hf
      obtain rfl : n = n' := by omega
      rw [he]
      exact ih p (x :: r) hp (.cons hr hc)
theorem Chn.at {R : Regy} {g : Mod} {c : List Mod} (h : Chn R g c) : ∀ k (hk : k + 1 < c.length), c[k + 1] ∈ reqOf R (c[k]'(by omega)) := by
  induction h with
  | one => intro k hk; simp at hk
  | @cons x y r h1 _ ih =>
    intro k hk
    cases k with
    | zero => exact h1
    | succ k =>
      simp only [List.getElem_cons_succ]
      exact ih k (by simpa using hk)
theorem Chn.last {R : Regy} {g : Mod} {c : List Mod} (h : Chn R g c) : ∃ hk : c.length - 1 < c.length, c[c.length - 1] = g := by
  induction h with
  | one => exact ⟨by simp, rfl⟩
  | @cons x y r _ _ ih =>
    obtain ⟨h1, h2⟩ := ih
    refine ⟨by simp, ?_⟩
    have e : (x :: y :: r).length - 1 = ((y :: r).length - 1) + 1 := by simp
    simp only [e, List.getElem_cons_succ]
    exact h2
theorem bfsF_ok {R : Regy} {l : List Mod} {g : Mod} (hg : Reach R l g) : BInv R l (bfsF R l g) ∧ g ∈ todoF (msort l) (bfsF R l g) := by
  unfold bfsF
  obtain ⟨h1, h2⟩ := bfs_inv (g := g) (l.length + (univ R l).length + 1) 0 [] (BInv.start R l) (fun j hj hj0 => absurd hj0 (Nat.not_lt_zero _)) (Nat.zero_le _) (by omega)
  exact ⟨h1, h2 hg⟩
/-- a reason for a module of the build list -/
theorem reason_ok {R : Regy} {root : Mod} {l D : List Mod} (h : Built R root l D) {g : Mod} (hg : g ∈ D) : ∃ y s, reasonP R root l g.1 = (y :: s, 0) ∧ y ∈ l ∧ Chn R g (y :: s) := by
  obtain ⟨h1, h2⟩ := bfsF_ok (h.rch g hg)
  obtain ⟨y, s, h3, h4, h5⟩ := chainUp_ok h1 (bfsF R l g).length g [] (by rw [List.take_of_length_le (by simp)]; exact h2) .one
  refine ⟨y, s, ?_, h4, h5⟩
  unfold reasonP
  rw [h.eq, if_pos rfl]
  show (match D.find? fun m => decide (m.1 = g.1) with | none => (([] : List Mod), (7 : Int)) | some g => (chainUp (msort l) (bfsF R l g) (bfsF R l g).length [g], 0)) = _
  rw [show D.find? (fun m => decide (m.1 = g.1)) = some g from hasV_of h.tail.nod hg]
  show (chainUp (msort l) (bfsF R l g) (bfsF R l g).length [g], (0 : Int)) = _
  rw [h3]
theorem reason_root {R : Regy} {root : Mod} {l D : List Mod} (h : Built R root l D) : reasonP R root l root.1 = ([], 7) := by
  unfold reasonP
  rw [h.eq, if_pos rfl]
  show (match D.find? fun m => decide (m.1 = root.1) with | none => (([] : List Mod), (7 : Int)) | some g => (chainUp (msort l) (bfsF R l g) (bfsF R l g).length [g], 0)) = _
  rw [List.find?_eq_none.2 (fun x hx => by simpa using (h.tail.mem x hx).2)]
theorem reason_err {R : Regy} {root : Mod} {l : List Mod} {p : List UInt8} (h : (buildP R root l).2 ≠ 0) : reasonP R root l p = ([], (buildP R root l).2) := by
  unfold reasonP
  rw [if_neg h]
end Go.Proofs.YtfiilbdkhelhgaaDoor
