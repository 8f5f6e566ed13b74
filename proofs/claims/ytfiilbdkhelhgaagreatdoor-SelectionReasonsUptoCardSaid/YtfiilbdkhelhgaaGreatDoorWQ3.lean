/- Walk: the document's chains: bounds, appends, what its drawn regions keep. -/
import Derived.Test.YtfiilbdkhelhgaaGreatDoorWQ2
import Derived.Test.YtfiilbdkhelhgaaGreatDoorWR5
namespace Go.Proofs.YtfiilbdkhelhgaaGreatDoor
open Go.RowKit Go.Sort

/-- chains of one length with different ends -/
structure GoodL (R : Regy) (l : List Mod) (N : Nat) (L : List (List Mod)) : Prop where
  nod : (L.map endM).Nodup
  wk : ∀ c ∈ L, (∃ m, Wk R l m c) ∧ c.length = N
theorem GoodL.nil (R : Regy) (l : List Mod) (N : Nat) : GoodL R l N [] := ⟨by simp, by simp⟩
theorem GoodL.add {R : Regy} {l : List Mod} {N : Nat} {L : List (List Mod)} {c : List Mod} (h : GoodL R l N L) (hc : ∃ m, Wk R l m c) (hl : c.length = N) : GoodL R l N (addC L c) := by
  refine ⟨?_, fun d hd => ?_⟩
  · rw [addC_ends]
    split
    · exact h.nod
    · rename_i hn
      rw [List.nodup_append]
      refine ⟨h.nod, by simp, fun a ha b hb e => hn ?_⟩
      obtain rfl : b = endM c := by simpa using hb
      exact e ▸ ha
  · rcases addC_sub c L d hd with h1 | rfl
    · exact h.wk d h1
    · exact ⟨hc, hl⟩
theorem Wk.reach {R : Regy} {l : List Mod} {m : Mod} {c : List Mod} (h : Wk R l m c) : Reach R l m := by
  induction h with
  | one h => exact .base h
  | snoc _ h ih => exact .step ih h
theorem GoodL.len {R : Regy} {l : List Mod} {N : Nat} {L : List (List Mod)} (h : GoodL R l N L) : L.length ≤ (univ R l).length := by
  have h1 := nodup_len (L.map endM) (univ R l) h.nod fun x hx => by
    obtain ⟨c, hc, rfl⟩ := List.mem_map.1 hx
    obtain ⟨⟨m, hm⟩, _⟩ := h.wk c hc
    rw [hm.end]
    exact hm.reach.univ
  rwa [List.length_map] at h1
/-- a chain copied onto an empty row -/
theorem chain_copy {W : World} {z g b : Nat} {A : Option Addr} {c : Nat} {l : List Mod} (hO : W.ownsRow z 30 4 (.slice (some ⟨g, 0, none⟩) 0 0) 0 []) (hS : Sl W b 4 encM A l) (_ : b ≤ W.heap.size) (hz : z ≤ W.heap.size) (hl : l.length ≤ 1000000) :
    ∃ A6 c6 W2, (Builtin.append_ #[31, 31] 31 #[.slice (some ⟨g, 0, none⟩) 0 0, .slice A l.length c]).run Tryz.prog W = .ok (.slice A6 l.length c6) W2 ∧ W2.ownsRow z 30 4 (.slice A6 l.length c6) l.length (l.flatMap encM) ∧ W.grownBy W2 (some g) ∧ Below z W W2 := by
  obtain ⟨v', W2, hr, h2, h3, h4⟩ := run_own1 W elMod z 31 _ 0 _ hO A l.length c (l.flatMap encM) (hS.src encM_len) (encM_one l) (by unfold maxLen; omega) (by omega) hz
  rw [Nat.zero_add, List.nil_append] at h2
  obtain ⟨A6, c6, rfl⟩ := Acc.shape (.inl h2)
  exact ⟨A6, c6, W2, hr, h2, h3, h4⟩
/-- a module appended to a row of its own -/
theorem chain_snoc {W : World} {z g c : Nat} {A : Option Addr} {l : List Mod} {m : Mod} (hO : W.ownsRow z 30 4 (.slice A l.length c) l.length (l.flatMap encM)) (hk : Blk W g 30 (modA m)) (hz : z ≤ W.heap.size) (hl : l.length + 1 ≤ 1000000) :
    ∃ A7 c7 W2, (Builtin.append_ #[31, 31] 31 #[.slice A l.length c, .slice (some ⟨g, 0, none⟩) 1 1]).run Tryz.prog W = .ok (.slice A7 (l.length + 1) c7) W2 ∧ OwnC W2 z (A7, c7, l ++ [m]) ∧ Below z W W2 := by
  have hS : Sl W W.heap.size 4 encM (some ⟨g, 0, none⟩) [m] := sl_of_blk hk encM_len (by decide) (by simp [modA, encM])
  obtain ⟨v', W2, hr, h2, h3, h4⟩ := run_own1 W elMod z 31 _ l.length _ hO (some ⟨g, 0, none⟩) 1 1 ([m].flatMap encM) (hS.src encM_len) (encM_one [m]) (by unfold maxLen; omega) (by omega) hz
  obtain ⟨A7, c7, rfl⟩ := Acc.shape (.inl h2)
  refine ⟨A7, c7, W2, hr, ⟨?_, by simp, by simp; omega⟩, h4⟩
  show W2.ownsRow z 30 4 (.slice A7 (l ++ [m]).length c7) (l ++ [m]).length ((l ++ [m]).flatMap encM)
  rw [List.length_append, List.length_singleton, List.flatMap_append]
  exact h2
theorem lit_kept {W W2 : World} {z g g' : Nat} {m : Mod} (hk : Blk W g 30 (modA m)) (hO : W.ownsRow z 30 4 (.slice (some ⟨g', 0, none⟩) 0 0) 0 []) (hg : W.grownBy W2 (some g')) : Blk W2 g 30 (modA m) := by
  refine hk.grown hg fun e => ?_
  obtain rfl : g = g' := Option.some.inj e
  rcases hO.2 with ⟨h1, _⟩ | ⟨g2, cap, cur, h1, _, h2, _, _, h3, _⟩
  · simp at h1
  · injection h1 with h4 _ h5
    injection h4 with h6
    injection h6 with h7
    subst h7 h5
    unfold Blk at hk
    rw [hk] at h2
    injection h2 with h8
    injection h8 with h9
    rw [← h9] at h3
    simp [modA] at h3
def EndInv (z : Nat) (w0 : World) (PA PB SY : Value) (x : Mod) (ny q : Nat) (t0 t1 t2 t3 t4 t5 t6 t7 t8 t9 t10 t11 t12 t13 t14 t15 t16 t17 t19 t20 t21 t22 t23 t24 t25 t26 t27 t28 t29 t30 t31 t32 t33 t34 t35 t36 t37 t38 t39 t40 t41 t42 t43 t44 t45 t46 t47 t48 t49 t50 t51 t52 t53 t54 t55 t56 t57 t58 t59 t60 t61 t62 t63 t64 t65 t66 t67 t68 t69 t82 t83 t84 t85 t86 t87 t88 t89 t90 t91 t92 t93 t94 t95 t96 t97 t98 t99 t100 t101 t102 t103 t104 t105 t106 t107 t108 t109 t110 t111 t112 : Value) (L : Array Bool) (a : Act) (W : World) : Prop :=
  ∃ (b0 b1 b2 b3 b4 b5 b6 b7 b8 b9 b10 b11 b12 b13 : Bool) (s18 s70 s71 s72 s73 s74 s75 s76 s77 s78 s79 s80 s81 : Value), L = #[b0, b1, b2, b3, b4, b5, b6, b7, b8, b9, b10, b11, b12, b13] ∧ a = ⟨#[t0, t1, t2, t3, t4, t5, t6, t7, t8, t9, t10, t11, t12, t13, t14, t15, t16, t17, s18, t19, t20, t21, t22, t23, t24, t25, t26, t27, t28, t29, t30, t31, t32, t33, t34, t35, t36, t37, t38, t39, t40, t41, t42, t43, t44, t45, t46, t47, t48, t49, t50, t51, t52, t53, t54, t55, t56, t57, t58, t59, t60, t61, t62, t63, t64, t65, t66, t67, t68, t69, s70, s71, s72, s73, s74, s75, s76, s77, s78, s79, s80, s81, t82, t83, t84, t85, t86, t87, t88, t89, t90, t91, t92, t93, t94, t95, t96, t97, t98, t99, t100, t101, t102, t103, t104, t105, t106, t107, t108, t109, t110, t111, t112], []⟩ ∧ Below z w0 W ∧ (b0 = true → s70 = t12) ∧ (b1 = true → s71 = t17) ∧ (b2 = true → s72 = PA) ∧ (b3 = true → s73 = SY) ∧ (b4 = true → s74 = t12) ∧ (b5 = true → s75 = t17) ∧ (b6 = true → s76 = PA) ∧ (b7 = true → s77 = SY) ∧ (b8 = true → s78 = .int .i64 (ny : Nat)) ∧ (b9 = true → s79 = .int .i64 (q : Nat)) ∧ (b10 = true → s80 = PB) ∧ (b11 = true → s81 = .agg #[.string ⟨x.1.toArray⟩, .int .i64 x.2.1, .int .i64 x.2.2.1, .int .i64 x.2.2.2]) ∧ (b12 = true → ∃ g c0 c1 c2 c3, s18 = .pointer (some ⟨g, 0, none⟩) ∧ z ≤ g ∧ Blk W g 30 #[c0, c1, c2, c3]) ∧ (b13 = true → b12 = true ∧ ∃ (g : Nat), s18 = .pointer (some ⟨g, 0, none⟩) ∧ z ≤ g ∧ Blk W g 30 (modA x))
def MoreInv (z : Nat) (w0 : World) (z1 : Nat) (NV PA SY PM : Value) (m : Mod) (ly : List Mod) (E : List (List Mod)) (t0 t1 t2 t3 t4 t5 t6 t7 t8 t9 t10 t11 t12 t13 t14 t15 t17 t18 t19 t20 t21 t22 t23 t24 t25 t26 t27 t28 t29 t30 t31 t32 t33 t34 t35 t36 t37 t38 t39 t40 t41 t42 t43 t44 t45 t46 t47 t48 t49 t50 t51 t52 t53 t54 t55 t56 t57 t58 t59 t60 t61 t62 t63 t64 t65 t66 t67 t68 t69 t70 t71 t72 t73 t74 t75 t76 t77 t78 t79 t80 t81 t82 t83 t84 t85 t86 t87 t88 t89 t90 t91 t92 t93 t94 t95 t96 t97 t112 : Value) (L : Array Bool) (a : Act) (W : World) : Prop :=
  ∃ (b0 b1 b2 b3 b4 b5 b6 b7 b8 b9 b10 b11 b12 b13 b14 : Bool) (s16 s98 s99 s100 s101 s102 s103 s104 s105 s106 s107 s108 s109 s110 s111 : Value), L = #[b0, b1, b2, b3, b4, b5, b6, b7, b8, b9, b10, b11, b12, b13, b14] ∧ a = ⟨#[t0, t1, t2, t3, t4, t5, t6, t7, t8, t9, t10, t11, t12, t13, t14, t15, s16, t17, t18, t19, t20, t21, t22, t23, t24, t25, t26, t27, t28, t29, t30, t31, t32, t33, t34, t35, t36, t37, t38, t39, t40, t41, t42, t43, t44, t45, t46, t47, t48, t49, t50, t51, t52, t53, t54, t55, t56, t57, t58, t59, t60, t61, t62, t63, t64, t65, t66, t67, t68, t69, t70, t71, t72, t73, t74, t75, t76, t77, t78, t79, t80, t81, t82, t83, t84, t85, t86, t87, t88, t89, t90, t91, t92, t93, t94, t95, t96, t97, s98, s99, s100, s101, s102, s103, s104, s105, s106, s107, s108, s109, s110, s111, t112], []⟩ ∧ Below z w0 W ∧ (b0 = true → s98 = NV) ∧ (b1 = true → b6 = false ∧ b13 = false → ∃ g, s99 = .slice (some ⟨g, 0, none⟩) 0 0 ∧ W.ownsRow z1 30 4 (.slice (some ⟨g, 0, none⟩) 0 0) 0 []) ∧ (b2 = true → s100 = t12) ∧ (b3 = true → s101 = t17) ∧ (b4 = true → s102 = PA) ∧ (b5 = true → s103 = SY) ∧ (b6 = true → b12 = false ∧ b13 = false → ∃ (A : Option Addr) (c : Nat), s104 = .slice A ly.length c ∧ W.ownsRow z1 30 4 (.slice A ly.length c) ly.length (ly.flatMap encM)) ∧ (b7 = true → s105 = t19) ∧ (b8 = true → s106 = t20) ∧ (b9 = true → s107 = PM) ∧ (b10 = true → s108 = .agg #[.string ⟨m.1.toArray⟩, .int .i64 m.2.1, .int .i64 m.2.2.1, .int .i64 m.2.2.2]) ∧ (b11 = true → b12 = false ∧ b13 = false → ∃ g, s109 = .slice (some ⟨g, 0, none⟩) 1 1 ∧ Blk W g 30 (modA m)) ∧ (b12 = true → b6 = true ∧ (b13 = false → ∃ (A : Option Addr) (c : Nat), s110 = .slice A (ly.length + 1) c ∧ OwnC W z1 (A, c, ly ++ [m]))) ∧ (b13 = true → b6 = true ∧ b12 = true ∧ b0 = true ∧ ∃ (A : Option Addr) (c : Nat) (NC : List CW), s111 = .slice A NC.length c ∧ ChR W z (.slice A NC.length c) NC ∧ NC.map (·.2.2) = E) ∧ (b14 = true → b0 = true ∧ b13 = true ∧ ∃ (A : Option Addr) (c : Nat) (NC : List CW), s16 = .slice A NC.length c ∧ ChR W z (.slice A NC.length c) NC ∧ NC.map (·.2.2) = E) ∧ (b13 = false → Below z1 w0 W) ∧ (b14 = false → s16 = NV)
end Go.Proofs.YtfiilbdkhelhgaaGreatDoor
