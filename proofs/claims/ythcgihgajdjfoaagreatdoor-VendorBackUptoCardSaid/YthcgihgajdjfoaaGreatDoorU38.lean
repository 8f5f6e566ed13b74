/- What the claim needs of: IL. -/
import Derived.Test.YthcgihgajdjfoaaGreatDoorU35
import Derived.Test.YthcgihgajdjfoaaGreatDoorU37
namespace Go.Proofs.YthcgihgajdjfoaaGreatDoor
open Go.RowKit Go.Sort
theorem wpList_own2 {P : Program} {t e size bytes : Nat} {w : World} {ops : Array Oper} {rest : List Oper} {o : Oper} {a : Act} {Q : Exit → Act → World → Prop} (hgd : o.guard = none) (s x : Operand)
    (ho : o.op = .call { callee := .builtin .append, args := #[s, x], argTypes := #[t, t] })
    (base : Nat) (hT : ElT P t e size bytes) (v : Value) (n : Nat) (xs : List Value) (hs : a.eval s = v) (hown : w.ownsRow base e size v n xs)
    (A : Option Addr) (m c : Nat) (news : List Value) (hx : a.eval x = .slice A m c) (hsrc : Src w size A m news) (hm : 0 < m) (h1 : ∀ u ∈ news, u.oneCell' = true)
    (h63 : n + m ≤ maxLen) (hbytes : (n + m) * bytes ≤ 140737488355328) (hbase : base ≤ w.heap.size)
    (h : ∀ A' c' w', w'.ownsRow base e size (.slice A' (n + m) c') (n + m) (xs ++ news) → w.grownBy w' v.ownBlock → Below base w w' → ((Value.slice A' (n + m) c').ownBlock = v.ownBlock ∨ ∃ g, (Value.slice A' (n + m) c').ownBlock = some g ∧ w.heap.size ≤ g) → wpList P ops Q rest (a.put o.dst (.slice A' (n + m) c')) w') : wpList P ops Q (o :: rest) a w :=
  wpList_plain hgd fun _ hK => by
    obtain ⟨A', c', w', hr, h2, h3, h4, h5⟩ := run_own2 w hT base o.type v n xs hown A m c news hsrc hm h1 h63 hbytes hbase
    unfold Oper.wp execOp
    simp only [ho, resolve, invoke, builtin, Sem.run_bind, Sem.run_pure, Result.andThen_ok, List.map_toArray, List.map_cons, List.map_nil, hs, hx, hr]
    exact hK _ _ (h A' c' w' h2 h3 h4 h5)
def bestS (V : List Mod) (p : List UInt8) : Option Value := (bestA V p).map verV
theorem bestS_put {V : List Mod} {k : Nat} (hk : k < V.length) (hu : updA (bestA (V.take k)) V[k] = true) : (fun x => if x = V[k].1 then some (verV V[k].2) else bestS (V.take k) x) = bestS (V.take (k + 1)) := by
  funext x
  unfold bestS
  rw [bestA_take hk, stepA, if_pos hu]
  by_cases hx : x = V[k].1 <;> simp [hx]
theorem bestS_same {V : List Mod} {k : Nat} (hk : k < V.length) (hu : updA (bestA (V.take k)) V[k] = false) : bestS (V.take (k + 1)) = bestS (V.take k) := by
  funext x
  unfold bestS
  rw [bestA_take hk, stepA, if_neg (by rw [hu]; decide)]
def seenP (S : List (List UInt8)) (p : List UInt8) : Option Value := if p ∈ S then some (.bool true) else none
theorem seenP_get (S : List (List UInt8)) (p : List UInt8) : (seenP S p).getD (.bool false) = .bool (decide (p ∈ S)) := by
  unfold seenP
  split <;> simp [*]
theorem seenP_put (S : List (List UInt8)) (a : List UInt8) : (fun x => if x = a then some (.bool true) else seenP S x) = seenP (S ++ [a]) := by
  funext x
  unfold seenP
  by_cases h : x = a <;> by_cases h2 : x ∈ S <;> simp [h, h2]
set_option maxRecDepth 100000 in
theorem eq_ver (x y z x' y' z' : Int) (w : World) :
    (Op.equalIn 10000 24 (.agg #[.int .i64 x, .int .i64 y, .int .i64 z]) (.agg #[.int .i64 x', .int .i64 y', .int .i64 z'])).run Tryz.prog w = .ok (decide ((x, y, z) = (x', y', z'))) w := by
  by_cases hx : x = x' <;> by_cases hy : y = y' <;> by_cases hz : z = z' <;> simp [go_sem, hx, hy, hz]
set_option maxRecDepth 100000 in
set_option maxHeartbeats 1000000 in
theorem cloneM_acc (A : Option Addr) (c : Nat) (l : List Mod) (w : World) (hA : Sl w w.heap.size 4 encM A l) (hl : l.length ≤ 1099511627776) :
    Calls Tryz.prog 71 #[.slice A l.length c] w fun e w' => ∃ A' c', e = .returned (.slice A' l.length c') ∧ Acc w' w.heap.size 26 4 (.slice A' l.length c') l.length (l.flatMap encM) ∧ (∀ g, (Value.slice A' l.length c').ownBlock = some g → w.heap.size ≤ g) ∧ Below w.heap.size w w' := by
  have fin : ∀ {v : Value} {w' : World}, w'.ownsRow w.heap.size 26 4 v l.length (l.flatMap encM) → ∃ A' c', v = .slice A' l.length c' ∧ Acc w' w.heap.size 26 4 (.slice A' l.length c') l.length (l.flatMap encM) ∧ ∀ g, (Value.slice A' l.length c').ownBlock = some g → w.heap.size ≤ g := fun h => by
    obtain ⟨A', c', rfl⟩ := Acc.shape (.inl h)
    exact ⟨A', c', rfl, .inl h, fun g hg => (h.lt g hg).1⟩
  rcases hA with rfl | ⟨b, off, rfl, hb, hc⟩
  · rcases A with _ | ad
    · refine (AnyE.slices_Clone_nil Tryz.cloneM 0 c w).mono ?_
      rintro e w' ⟨rfl, rfl⟩
      exact ⟨none, 0, rfl, Acc.nil_ _ _ _ _, fun g hg => by simp [Value.ownBlock] at hg, Below.refl _ _⟩
    · have q := fun (w : World) => Lib.run_eql_slice_nil w _ _ (some ad) 0 c 0 0 Tryz.underlying27
      have hac := Acc.marked w #[] w.heap.size 26 4 0 (0, 0) rfl
      show Calls Tryz.prog 71 #[.slice (some ad) 0 c] w _
      clear fin
      go_enter Tryz.func71, Tryz.ntmps71
      go_wp2_with (at_builtin; refine wpList_app _ rfl (.tmp 5) (.tmp 6) 27 rfl w.heap.size 26 4 40 elMod (.slice (some ⟨w.heap.size, 0, none⟩) 0 0) 0 _ rfl hac (some ad) 0 c [] rfl ⟨rfl, fun h => absurd h (by decide)⟩ (by simp) (by simp [maxLen]) (by omega) (by simp) ?_; intro v' w1 hacc' _ hb' _ ho')
      go_ret
      obtain ⟨A', c', rfl⟩ := hacc'.shape
      refine ⟨A', c', rfl, hacc', fun g hg => ?_, ((Below.refl _ _).alloc (Nat.le_refl _) _).trans hb'⟩
      rcases ho' with h | ⟨g', h, hg'⟩
      · have h2 : (Value.slice A' (0 + 0) c').ownBlock = some g := hg
        rw [h] at h2
        simp [Value.ownBlock] at h2
        omega
      · have h2 : (Value.slice A' (0 + 0) c').ownBlock = some g := hg
        rw [h] at h2
        injection h2 with h2
        simp at hg'
        omega
  · obtain ⟨_, h0, i, z, e1, e2, e3, e4, e5⟩ := elMod
    have hsr := (Sl.src (.inr ⟨b, off, rfl, hb, hc⟩ : Sl w w.heap.size 4 encM (some ⟨b, off, none⟩) l) encM_len)
    rcases Nat.eq_zero_or_pos l.length with h0' | hpos
    · obtain rfl : l = [] := List.eq_nil_of_length_eq_zero h0'
      refine (AnyE.slices_Clone Tryz.cloneM i z 4 40 e1 e2 e3 e4 e5 h0 Tryz.sizeOf26 b off 0 c [] w rfl (by simp [maxLen]) (by omega) (by simp) (by simp)).mono ?_
      rintro e w' ⟨v, rfl, h1, h2, h3⟩
      obtain ⟨A', c', rfl, h4, h5⟩ := fin h1
      exact ⟨A', c', rfl, h4, h5, h3⟩
    · refine (AnyE.slices_Clone Tryz.cloneM i z 4 40 e1 e2 e3 e4 e5 h0 Tryz.sizeOf26 b off l.length c (l.flatMap encM) w (flat_len encM_len l) (by simp only [maxLen]; omega) (by omega) (fun j u hu => ?_) (encM_one l)).mono ?_
      · obtain ⟨ad, had, hcs⟩ := hsr.2 hpos
        injection had with had
        subst had
        have := hcs j u hu
        rwa [Addr.add_lit] at this
      · rintro e w' ⟨v, rfl, h1, h2, h3⟩
        obtain ⟨A', c', rfl, h4, h5⟩ := fin h1
        exact ⟨A', c', rfl, h4, h5, h3⟩
theorem zeroVer (w : World) : (zeroValue 24).run Tryz.prog w = .ok (.agg #[.int .i64 0, .int .i64 0, .int .i64 0]) w := Tryz.zeroValue24 w
theorem staleR_eq (L : List Rel) (r : Rel) : staleR L r = if metP L r.1 true = true then some (r.1.1, 20) else none := rfl
end Go.Proofs.YthcgihgajdjfoaaGreatDoor
