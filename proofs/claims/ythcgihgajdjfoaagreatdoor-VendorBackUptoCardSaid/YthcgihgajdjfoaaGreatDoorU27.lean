/- What the claim needs of: WR4 WPF. -/
import Derived.Test.YthcgihgajdjfoaaGreatDoorU26
import Derived.Test.YthcgihgajdjfoaaGreatDoorU25
import Derived.Test.YthcgihgajdjfoaaGreatDoorU11
import Derived.Test.YthcgihgajdjfoaaGreatDoorU8
import Derived.Deep.CutBlock
namespace Go.Proofs.YthcgihgajdjfoaaGreatDoor
open Go.RowKit Go.Sort
section
variable {P : Program}
theorem wpList_app1 {w : World} {ops : Array Oper} {rest : List Oper} {o : Oper} {a : Act} {Q : Exit → Act → World → Prop} (hgd : o.guard = none) (d s : Operand) (t t' : TypeId)
    (ho : o.op = .call { callee := .builtin .append, args := #[d, s], argTypes := #[t, t'] }) (v u : Value) (hd : a.eval d = v) (hs : a.eval s = u) {v' : Value} {w' : World}
    (hr : (Builtin.append_ #[t, t'] o.type #[v, u]).run P w = .ok v' w') (h : wpList P ops Q rest (a.put o.dst v') w') : wpList P ops Q (o :: rest) a w :=
  wpList_plain hgd fun _ hK => by
    unfold Oper.wp execOp
    simp only [ho, resolve, invoke, builtin, Sem.run_bind, Sem.run_pure, Result.andThen_ok, List.map_toArray, List.map_cons, List.map_nil, hd, hs, hr]
    exact hK _ _ h
end
theorem mod_eta' (m : Mod) : (m.1, m.2.1, m.2.2.1, m.2.2.2) = m := rfl
theorem run_own2 {P : Program} {t e size bytes : Nat} (w : World) (hT : ElT P t e size bytes) (base ty : Nat) (v : Value) (n : Nat) (xs : List Value) (hown : w.ownsRow base e size v n xs)
    (A : Option Addr) (m c : Nat) (news : List Value) (hsrc : Src w size A m news) (hm : 0 < m) (h1 : ∀ u ∈ news, u.oneCell' = true)
    (h63 : n + m ≤ maxLen) (hbytes : (n + m) * bytes ≤ 140737488355328) (hbase : base ≤ w.heap.size) :
    ∃ A' c' w', (Builtin.append_ #[t, t] ty #[v, .slice A m c]).run P w = .ok (.slice A' (n + m) c') w' ∧ w'.ownsRow base e size (.slice A' (n + m) c') (n + m) (xs ++ news) ∧ w.grownBy w' v.ownBlock ∧ Below base w w' ∧
      ((Value.slice A' (n + m) c').ownBlock = v.ownBlock ∨ ∃ g, (Value.slice A' (n + m) c').ownBlock = some g ∧ w.heap.size ≤ g) := by
  obtain ⟨ht, hsz, i, z, hi, hz, hs, hby, hzs⟩ := hT
  obtain ⟨ad, rfl, hc⟩ := hsrc.2 hm
  obtain ⟨v', w', hr, h2, h3, h4, h5⟩ := run_append_own_at (P := P) w base t ty e i z size bytes ht hi hz hs hby hzs hsz v n xs hown ad m c news hsrc.1 hc h1 h63 hbytes hbase
  obtain ⟨A', c', rfl⟩ := Acc.shape (.inl h2)
  refine ⟨A', c', w', hr, h2, h3, (Below.refl _ _).grown h3 hbase (fun k hk => (hown.lt k hk).1), ?_⟩
  rcases h5 with h5 | h5
  · exact .inl h5
  · exact .inr ⟨_, h5, Nat.le_refl _⟩
def RetN (w : World) (R : Regy) (l : List Mod) (e : Ending) (w' : World) : Prop :=
  ∃ (S : List Mod) (A : Option Addr) (c : Nat), e = .returned (.slice A S.length c) ∧ S.Nodup ∧ (∀ m, m ∈ S ↔ Reach R l m) ∧ Sl w' w'.heap.size 4 encM A S ∧ Below w.heap.size w w'
structure N1 (l : List Mod) (k : Nat) (O : List Mod) : Prop where
  nod : O.Nodup
  mem : ∀ m, m ∈ O ↔ m ∈ l.take k
theorem N1.old {l O : List Mod} {k : Nat} (h : N1 l k O) (hk : k < l.length) (hm : l[k] ∈ O) : N1 l (k + 1) O :=
  ⟨h.nod, fun m => by
    rw [List.take_succ_eq_append_getElem hk, List.mem_append, List.mem_singleton, ← h.mem]
    exact ⟨.inl, fun h => h.elim id fun e => e ▸ hm⟩⟩
theorem N1.new {l O : List Mod} {k : Nat} (h : N1 l k O) (hk : k < l.length) (hm : l[k] ∉ O) : N1 l (k + 1) (O ++ [l[k]]) :=
  ⟨List.nodup_append.2 ⟨h.nod, by simp, fun a ha b hb e => hm (by rw [List.mem_singleton.1 hb] at e; exact e ▸ ha)⟩, fun m => by
    rw [List.take_succ_eq_append_getElem hk, List.mem_append, List.mem_append, ← h.mem]⟩
structure N2 (R : Regy) (l : List Mod) (k : Nat) (O : List Mod) : Prop where
  nod : O.Nodup
  rch : ∀ m ∈ O, Reach R l m
  base : ∀ m ∈ l, m ∈ O
  clos : ∀ j (hj : j < O.length), j < k → ∀ m ∈ reqOf R O[j], m ∈ O
theorem N2.start {R : Regy} {l O : List Mod} (h : N1 l l.length O) : N2 R l 0 O :=
  ⟨h.nod, fun m hm => .base (by have := (h.mem m).1 hm; rwa [List.take_of_length_le (Nat.le_refl _)] at this), fun m hm => (h.mem m).2 (by rwa [List.take_of_length_le (Nat.le_refl _)]), fun j _ h => by omega⟩
theorem N2.len {R : Regy} {l O : List Mod} {k : Nat} (h : N2 R l k O) : O.length ≤ (univ R l).length := nodup_len O _ h.nod fun m hm => (h.rch m hm).univ
theorem N2.fin {R : Regy} {l O : List Mod} (h : N2 R l O.length O) (m : Mod) : m ∈ O ↔ Reach R l m := by
  refine ⟨h.rch m, fun hr => ?_⟩
  induction hr with
  | base h1 => exact h.base _ h1
  | step _ h2 ih =>
    obtain ⟨j, hj, rfl⟩ := List.mem_iff_getElem.1 ih
    exact h.clos j hj hj _ h2
structure N3 (R : Regy) (l : List Mod) (k : Nat) (p : Mod) (q : Nat) (O : List Mod) : Prop where
  inv : N2 R l k O
  at_ : O[k]? = some p
  seen : ∀ m ∈ (reqOf R p).take q, m ∈ O
theorem N3.old {R : Regy} {l O : List Mod} {k q : Nat} {p : Mod} (h : N3 R l k p q O) (hq : q < (reqOf R p).length) (hm : (reqOf R p)[q] ∈ O) : N3 R l k p (q + 1) O :=
  ⟨h.inv, h.at_, fun m hmm => by
    rw [List.take_succ_eq_append_getElem hq, List.mem_append, List.mem_singleton] at hmm
    exact hmm.elim (h.seen m) fun e => e ▸ hm⟩
theorem N3.new {R : Regy} {l O : List Mod} {k q : Nat} {p : Mod} (h : N3 R l k p q O) (hq : q < (reqOf R p).length) (hm : (reqOf R p)[q] ∉ O) : N3 R l k p (q + 1) (O ++ [(reqOf R p)[q]]) := by
  have hkl : k < O.length := (List.getElem?_eq_some_iff.1 h.at_).1
  have hp : p ∈ O := List.mem_of_getElem? h.at_
  refine ⟨⟨List.nodup_append.2 ⟨h.inv.nod, by simp, fun a ha b hb e => hm (by rw [List.mem_singleton.1 hb] at e; exact e ▸ ha)⟩, ?_, fun m h1 => List.mem_append_left _ (h.inv.base m h1), ?_⟩, ?_, ?_⟩
  · intro m h1
    rcases List.mem_append.1 h1 with h1 | h1
    · exact h.inv.rch m h1
    · rw [List.mem_singleton.1 h1]
      exact .step (h.inv.rch p hp) (List.getElem_mem hq)
  · intro j hj hjk m h1
    have hjl : j < O.length := by omega
    rw [List.getElem_append_left hjl] at h1
    exact List.mem_append_left _ (h.inv.clos j hjl hjk m h1)
  · rw [List.getElem?_append_left hkl]; exact h.at_
  · intro m hmm
    rw [List.take_succ_eq_append_getElem hq, List.mem_append, List.mem_singleton] at hmm
    rcases hmm with h1 | h1
    · exact List.mem_append_left _ (h.seen m h1)
    · rw [h1]; simp
theorem N3.done {R : Regy} {l O : List Mod} {k : Nat} {p : Mod} (h : N3 R l k p (reqOf R p).length O) : N2 R l (k + 1) O :=
  ⟨h.inv.nod, h.inv.rch, h.inv.base, fun j hj hjk m hm => by
    by_cases hlt : j < k
    · exact h.inv.clos j hj hlt m hm
    · obtain rfl : j = k := by omega
      have e : O[j] = p := by
        have h1 := h.at_
        rw [List.getElem?_eq_getElem hj] at h1
        exact Option.some.inj h1
      rw [e] at hm
      exact h.seen m (by rw [List.take_of_length_le (Nat.le_refl _)]; exact hm)⟩
theorem reqOf_le {R : Regy} {m : Mod} {n : Nat} (h : ∀ x ∈ R, x.2.length ≤ n) : (reqOf R m).length ≤ n := by
  unfold reqOf
  cases hf : R.find? fun x => decide (x.1 = m) with
  | none => simp
  | some y => simpa using h y (List.mem_of_find?_eq_some hf)
theorem row_app {w : World} {base n : Nat} {v : Value} {O : List Mod} {m : Mod} (hown : w.ownsRow base 26 4 v n (O.flatMap encM)) (hb : base ≤ w.heap.size) (hn : n ≤ 1000000) :
    ∃ A7 c7 w7, (Builtin.append_ #[27, 27] 27 #[v, .slice (some ⟨w.heap.size, 0, none⟩) 1 1]).run Tryz.prog (w.alloc (.cells #[.string ⟨m.1.toArray⟩, .int .i64 m.2.1, .int .i64 m.2.2.1, .int .i64 m.2.2.2] 26)) = .ok (.slice A7 (n + 1) c7) w7 ∧
      w7.ownsRow base 26 4 (.slice A7 (n + 1) c7) (n + 1) ((O ++ [m]).flatMap encM) ∧ Below base w w7 := by
  have hA : Below w.heap.size w (w.alloc (.cells #[.string ⟨m.1.toArray⟩, .int .i64 m.2.1, .int .i64 m.2.2.1, .int .i64 m.2.2.2] 26)) := (Below.refl _ _).alloc (Nat.le_refl _) _
  have hrow := own_below2 hown hA
  obtain ⟨A7, c7, w7, hr, h2, h3, h4, h5⟩ := run_own2 _ elMod base 27 v _ _ hrow (some ⟨w.heap.size, 0, none⟩) 1 1 [.string ⟨m.1.toArray⟩, .int .i64 m.2.1, .int .i64 m.2.2.1, .int .i64 m.2.2.2] (Src.lit w 4 _ _ 1 rfl) (by decide) (by simp [Value.oneCell']) (by unfold maxLen; omega) (by omega) (by simp; omega)
  refine ⟨A7, c7, w7, hr, ?_, (hA.mono hb).trans h4⟩
  rw [List.flatMap_append]
  exact h2
set_option maxRecDepth 100000 in
set_option maxHeartbeats 4000000 in
theorem Needed_any (A : Option Addr) (c : Nat) (Y : List ManW) (A2 : Option Addr) (c2 : Nat) (l : List Mod) (w : World) (hY : RegOk w w.heap.size A Y) (hS : Sl w w.heap.size 4 encM A2 l) (hl : l.length ≤ 100) :
    Calls Tryz.prog 74 #[.slice A Y.length c, .slice A2 l.length c2] w (RetN w (regW Y) l) := by
  have HY := Lib.hid hY
  have HS := Lib.hid hS
  have hYl := hY.2.2
  obtain ⟨U, hU⟩ : ∃ U, U = (univ (regW Y) l).length := ⟨_, rfl⟩
  have hU2 : U ≤ 10100 := by
    have h3 := univ_len (regW Y) l (by simpa [regW] using hYl) (fun x hx => by
      obtain ⟨y, hy, rfl⟩ := List.mem_map.1 hx
      exact (HY.out.2.1 y hy).2.1)
    omega
  have HU := Lib.hid hU
  have cH := Lib.hid (fun (A3 : Option Addr) (c3 : Nat) (O : List Mod) (n : Nat) (hn : n = O.length) m W (hA : Sl W W.heap.size 4 encM A3 O) (hn2 : n ≤ 1000000) => show Calls Tryz.prog 118 #[.slice A3 n c3, .agg #[.string ⟨m.1.toArray⟩, .int .i64 m.2.1, .int .i64 m.2.2.1, .int .i64 m.2.2.2]] W fun e w' => e = .returned (.bool (decide (m ∈ O))) ∧ Below W.heap.size W w' by
    subst hn
    exact Has_any A3 c3 O m W hA (by omega))
  have cR := Lib.hid (fun m W (hW : Below w.heap.size w W) => Requires_b A c Y m W w.heap.size hW.size (HY.out.keep hW))
  have HRl := Lib.hid (fun m => show (reqOf (regW Y) m).length ≤ 100 from reqOf_le fun x hx => by
    obtain ⟨y, hy, rfl⟩ := List.mem_map.1 hx
    exact (HY.out.2.1 y hy).2.1)
  clear hY hS hU
  generalize hQ : RetN w (regW Y) l = Q
  go_enter Tryz.func74, Tryz.ntmps74
  go_wp2
  go_loopw [5, 6] (fun v i wr => ∃ (k n : Nat) (O : List Mod) (Av : Option Addr) (cv : Nat), i = .int .i64 (k : Nat) ∧ v = .slice Av n cv ∧ k ≤ l.length ∧ n ≤ k ∧ Hid (n = O.length) ∧ Hid (N1 l k O) ∧ Hid (wr.ownsRow w.heap.size 26 4 (.slice Av n cv) n (O.flatMap encM)) ∧ Hid (Below w.heap.size w wr)) (fun _ i _ => l.length - (intOf i).toNat)
  case atStart => exact ⟨0, 0, [], none, 0, rfl, rfl, Nat.zero_le _, Nat.le_refl _, Lib.hid rfl, Lib.hid ⟨List.nodup_nil, by simp⟩, Lib.hid (World.ownsRow_nil _ _ _ _), Lib.hid (Below.refl _ _)⟩
  case round =>
    obtain ⟨wo, hwo⟩ : ∃ wo, wo = wr := ⟨_, rfl⟩
    subst hwo
    obtain ⟨k, n, O, Av, cv, rfl, rfl, hk, hnk, HN, H1, HO, HB⟩ := hrel
    by_cases hlt : k < l.length
    · have hlt' : (k : Int) < (l.length : Int) := by omega
      have HSk := Lib.hid (fun W (hW : Below w.heap.size w W) => (HS.out.below hW).mod hlt)
      obtain ⟨bb, off, hA2, hbB, g0, g1, g2, g3⟩ := (HS.out.below HB.out).mod hlt
      have HOld := Lib.hid (fun h => H1.out.old hlt h)
      have HNew := Lib.hid (fun h => H1.out.new hlt h)
      generalize l[k] = x at g0 g1 g2 g3 HSk HOld HNew
      subst hA2
      have cX := Lib.hid (cH.out Av cv O n HN.out x wo (Acc.slAny (.inl HO.out) encM_len (by decide)) (by omega))
      go_wp2_with fail
      refine cX.out.mono ?_
      rintro e w2 ⟨rfl, hb2⟩
      have HB2 := Lib.hid (HB.out.trans (hb2.mono HB.out.size))
      have HO2 := Lib.hid (own_below2 HO.out hb2)
      clear hb2 cX g0 g1 g2 g3
      by_cases hx : x ∈ O
      · rw [decide_eq_true hx]
        have H1' := Lib.hid (HOld.out hx)
        clear hx HOld HNew
        go_wp2
        go_roundw
        case rel => exact ⟨k + 1, n, O, Av, cv, by go_num, rfl, by omega, by omega, HN, H1', HO2, HB2⟩
        case measure => simp [intOf]; omega
      · rw [decide_eq_false hx]
        have H1' := Lib.hid (HNew.out hx)
        obtain ⟨b2, off2, hA3, hb3, e0, e1, e2, e3⟩ := HSk.out w2 HB2.out
        injection hA3 with hA3
        injection hA3 with e4 e5
        subst e4 e5
        obtain ⟨A7, c7, w7, hap, hO7, hb7⟩ := row_app (m := x) HO2.out HB2.out.size (by omega)
        have HO7 := Lib.hid hO7
        have HB7 := Lib.hid (HB2.out.trans hb7)
        have HN7 := Lib.hid (show n + 1 = (O ++ [x]).length by rw [List.length_append, ← HN.out]; rfl)
        clear hx HOld HNew hO7 hb7
        go_wp2_with (at_builtin; refine wpList_app1 rfl _ _ _ _ rfl _ _ rfl rfl hap ?_)
        go_roundw
        case rel => exact ⟨k + 1, n + 1, O ++ [x], A7, c7, by go_num, rfl, by omega, by omega, HN7, H1', HO7, HB7⟩
        case measure => simp [intOf]; omega
    · obtain rfl : k = l.length := by omega
      have H2 := Lib.hid (N2.start (R := regW Y) H1.out)
      have hnU : n ≤ U := by rw [HN.out, HU.out]; exact H2.out.len
      clear H1
      go_wp2
      go_loopw [5, 7] (fun v i wr => ∃ (k n : Nat) (O : List Mod) (Av : Option Addr) (cv : Nat), i = .int .i64 (k : Nat) ∧ v = .slice Av n cv ∧ k ≤ n ∧ n ≤ U ∧ Hid (n = O.length) ∧ Hid (N2 (regW Y) l k O) ∧ Hid (wr.ownsRow w.heap.size 26 4 (.slice Av n cv) n (O.flatMap encM)) ∧ Hid (Below w.heap.size w wr)) (fun _ i _ => U - (intOf i).toNat)
      case atStart => exact ⟨0, n, O, _, cv, rfl, rfl, Nat.zero_le _, hnU, HN, H2, HO, HB⟩
      case round =>
        obtain ⟨wo, hwo⟩ : ∃ wo, wo = wr := ⟨_, rfl⟩
        subst hwo
        obtain ⟨k2, n2, O2, Av2, cv2, rfl, rfl, hk2, hnk2, HN2, H3, HO2, HB2⟩ := hrel
        by_cases hlt2 : k2 < n2
        · have hlt2' : (k2 : Int) < (n2 : Int) := by omega
          have hltO : k2 < O2.length := by rw [← HN2.out]; exact hlt2
          obtain ⟨bb, off, hA2, hbB, g0, g1, g2, g3⟩ := (Acc.slAny (.inl HO2.out) encM_len (by decide)).mod hltO
          have HPk := Lib.hid (List.getElem?_eq_getElem hltO)
          generalize O2[k2] = p at g0 g1 g2 g3 HPk
          subst hA2
          have cX := Lib.hid (cR.out p wo HB2.out)
          go_wp2_with fail
          refine cX.out.mono ?_
          rintro e w3 ⟨A3, c3, rfl, hS3, hb3⟩
          have HB3 := Lib.hid (HB2.out.trans (hb3.mono HB2.out.size))
          have HO3 := Lib.hid (own_below2 HO2.out hb3)
          have HS3 := Lib.hid (fun W (hW : Below w.heap.size w3 W) => hS3.below hW)
          have HI0 := Lib.hid (show N3 (regW Y) l k2 p 0 O2 from ⟨H3.out, HPk.out, by simp⟩)
          have hrl := HRl.out p
          obtain ⟨rl, hrl2⟩ : ∃ rl, rl = (reqOf (regW Y) p).length := ⟨_, rfl⟩
          rw [← hrl2] at hrl ⊢
          have HRL := Lib.hid hrl2
          clear hb3 hS3 cX g0 g1 g2 g3 hrl2
          go_wp2
          go_loopw [5, 9] (fun v i wr => ∃ (q n : Nat) (O : List Mod) (Av : Option Addr) (cv : Nat), i = .int .i64 (q : Nat) ∧ v = .slice Av n cv ∧ q ≤ rl ∧ n ≤ U ∧ k2 < n ∧ Hid (n = O.length) ∧ Hid (N3 (regW Y) l k2 p q O) ∧ Hid (wr.ownsRow w.heap.size 26 4 (.slice Av n cv) n (O.flatMap encM)) ∧ Hid (Below w.heap.size w3 wr)) (fun _ i _ => rl - (intOf i).toNat)
          case atStart => exact ⟨0, n2, O2, _, cv2, rfl, rfl, Nat.zero_le _, hnk2, hlt2, HN2, HI0, HO3, Lib.hid (Below.refl _ _)⟩
          case round =>
            obtain ⟨q, n4, O4, Av4, cv4, rfl, rfl, hq, hn4, hk4, HN4, H4, HO4, HB4⟩ := hrel
            by_cases hlt4 : q < rl
            · have hlt4' : (q : Int) < (rl : Int) := by omega
              have hq4 : q < (reqOf (regW Y) p).length := by rw [← HRL.out]; exact hlt4
              have HSq := Lib.hid (fun W (hW : Below w.heap.size w3 W) => (HS3.out W hW).mod hq4)
              obtain ⟨bb, off, hA3, hbB, g0, g1, g2, g3⟩ := HSq.out wr HB4.out
              have HOld := Lib.hid (fun h => H4.out.old hq4 h)
              have HNew := Lib.hid (fun h => H4.out.new hq4 h)
              generalize (reqOf (regW Y) p)[q] = x at g0 g1 g2 g3 HSq HOld HNew
              subst hA3
              have cX := Lib.hid (cH.out Av4 cv4 O4 n4 HN4.out x wr (Acc.slAny (.inl HO4.out) encM_len (by decide)) (by omega))
              go_wp2_with fail
              refine cX.out.mono ?_
              rintro e w5 ⟨rfl, hb5⟩
              have hzz : w.heap.size ≤ wr.heap.size := Nat.le_trans HB3.out.size HB4.out.size
              have HB5 := Lib.hid (HB4.out.trans (hb5.mono hzz))
              have HO5 := Lib.hid (own_below2 HO4.out hb5)
              clear hb5 cX g0 g1 g2 g3
              by_cases hx : x ∈ O4
              · rw [decide_eq_true hx]
                have H5 := Lib.hid (HOld.out hx)
                clear hx HOld HNew
                go_wp2
                go_roundw
                case rel => exact ⟨q + 1, n4, O4, Av4, cv4, by go_num, rfl, by omega, hn4, hk4, HN4, H5, HO5, HB5⟩
                case measure => simp [intOf]; omega
              · rw [decide_eq_false hx]
                have H5 := Lib.hid (HNew.out hx)
                obtain ⟨b2, off2, hA3, hb3, e0, e1, e2, e3⟩ := HSq.out w5 HB5.out
                injection hA3 with hA3
                injection hA3 with e4 e5
                subst e4 e5
                obtain ⟨A7, c7, w7, hap, hO7, hb7⟩ := row_app (m := x) HO5.out (Nat.le_trans HB3.out.size HB5.out.size) (by omega)
                have HO7 := Lib.hid hO7
                have HB7 := Lib.hid (HB5.out.trans hb7)
                have HN7 := Lib.hid (show n4 + 1 = (O4 ++ [x]).length by rw [List.length_append, ← HN4.out]; rfl)
                have hn7 : n4 + 1 ≤ U := by rw [HN7.out, HU.out]; exact H5.out.inv.len
                clear hx HOld HNew hO7 hb7
                go_wp2_with (at_builtin; refine wpList_app1 rfl _ _ _ _ rfl _ _ rfl rfl hap ?_)
                go_roundw
                case rel => exact ⟨q + 1, n4 + 1, O4 ++ [x], A7, c7, by go_num, rfl, by omega, hn7, by omega, HN7, H5, HO7, HB7⟩
                case measure => simp [intOf]; omega
            · have hqe : q = rl := by omega
              have h5 := H4.out
              rw [hqe, HRL.out] at h5
              have H5 := Lib.hid h5.done
              clear h5
              subst hqe
              go_wp2
              go_roundw
              case rel => exact ⟨k2 + 1, n4, O4, _, cv4, by go_num, rfl, by omega, hn4, HN4, H5, HO4, Lib.hid (HB3.out.trans HB4.out)⟩
              case measure => simp [intOf]; omega
        · obtain rfl : k2 = n2 := by omega
          have h5 := H3.out
          rw [HN2.out] at h5
          have hsl := (Acc.slAny (.inl HO2.out) encM_len (by decide) : Sl wo wo.heap.size 4 encM Av2 O2)
          have HF := Lib.hid (show Q (.returned (.slice Av2 k2 cv2)) wo by
            rw [← hQ, HN2.out]
            exact ⟨O2, Av2, cv2, rfl, h5.nod, h5.fin, hsl, HB2.out⟩)
          clear h5 hsl
          go_wp2
          exact HF.out
end Go.Proofs.YthcgihgajdjfoaaGreatDoor
namespace Go.Proofs.YthcgihgajdjfoaaGreatDoor
open Go.RowKit Go.Sort
def InsAt (P : List Mod) (x : Mod) (a : Nat) : Prop := (∀ i, i + 1 = a → ∀ h : i < P.length, ltOf mcmp x P[i] = false) ∧ (∀ i, a ≤ i → ∀ h : i < P.length, ltOf mcmp x P[i] = true)
theorem flat_ins (P : List Mod) (x : Mod) (a : Nat) : (P.take a ++ x :: P.drop a).flatMap encM = ((P.take a).flatMap encM ++ encM x) ++ (P.drop a).flatMap encM := by simp
set_option maxRecDepth 100000 in
set_option maxHeartbeats 4000000 in
theorem refSorted_far (A : Option Addr) (c : Nat) (l : List Mod) (w : World) (hA : Sl w w.heap.size 4 encM A l) (hl : l.length ≤ 1099511627776) :
    Calls Tryz.prog 77 #[.slice A l.length c] w fun e w' => ∃ A' c', e = .returned (.slice A' l.length c') ∧ (∀ a, A' = some a → w.heap.size ≤ a.block) ∧ Sl w' w'.heap.size 4 encM A' (msort l) ∧ Below w.heap.size w w' := by
  go_enter Tryz.func77, Tryz.ntmps77
  go_wp2
  go_loopw [3, 10] (fun v i wr => ∃ (k : Nat) (P : List Mod), k ≤ l.length ∧ i = .int .i64 (k : Nat) ∧ P.length = k ∧ Acc wr w.heap.size 26 4 v k (P.flatMap encM) ∧ Hid (P.Perm (l.take k)) ∧ Hid (P.Pairwise (leOf (ltOf mcmp))) ∧ Hid (∀ b, v.ownBlock = some b → w.heap.size ≤ b) ∧ Below w.heap.size w wr)
    (fun _ i _ => l.length - (intOf i).toNat)
  case atStart => exact ⟨0, [], Nat.zero_le _, rfl, rfl, Acc.nil_ _ _ _ _, List.Perm.refl [], List.Pairwise.nil, Lib.hid (fun b h => by simp [Value.ownBlock] at h), Below.refl _ _⟩
  case round =>
    obtain ⟨wo, hwo⟩ : ∃ wo, wo = wr := ⟨_, rfl⟩
    subst hwo
    obtain ⟨k, P, hk, rfl, hPk, hacc, HP, HS, HF, hb⟩ := hrel
    have hbz := hb.size
    obtain ⟨A1, c1, rfl⟩ := hacc.shape
    have hcap := hacc.cap
    by_cases hlt : k < l.length
    · have hlt' : (k : Int) < (l.length : Int) := by omega
      obtain ⟨b, off, rfl, hbB, g0, g1, g2, g3⟩ := (hA.below hb).mod hlt
      have HN := Lib.hid (fun a => ins_perm P (l.take k) l[k] a HP.out)
      have HK := Lib.hid (List.take_succ_eq_append_getElem hlt)
      have HI := Lib.hid (fun a (ha : a ≤ P.length) (h : InsAt P l[k] a) => ins_sorted mlt_swo P l[k] a ha HS.out h.1 h.2)
      have HPk := Lib.hid hPk
      have hp1 : P.length ≤ k := by omega
      have hp2 : k ≤ P.length := by omega
      clear hPk
      generalize l[k] = x at g0 g1 g2 g3 HN HK HI
      obtain ⟨s, x1, x2, x3⟩ := x
      simp only at g0 g1 g2 g3
      go_upto_block 2 with fail
      have hB1 := Lib.hid (hb.alloc hbz (.cells #[.string ⟨s.toArray⟩, .int .i64 x1, .int .i64 x2, .int .i64 x3] 26))
      have hacc1 := hacc.alloc (.cells #[.string ⟨s.toArray⟩, .int .i64 x1, .int .i64 x2, .int .i64 x3] 26)
      have q0 := Blk.new wo 26 #[.string ⟨s.toArray⟩, .int .i64 x1, .int .i64 x2, .int .i64 x3]
      have hzz : (wo.alloc (.cells #[.string ⟨s.toArray⟩, .int .i64 x1, .int .i64 x2, .int .i64 x3] 26)).heap.size = wo.heap.size + 1 := by simp
      clear g0 g1 g2 g3 hacc hb
      generalize wo.alloc (.cells #[.string ⟨s.toArray⟩, .int .i64 x1, .int .i64 x2, .int .i64 x3] 26) = W0 at hB1 hacc1 q0 hzz ⊢
      generalize wo.heap.size = g at q0 hbz hzz ⊢
      have Q0 := Lib.hid q0
      have HA0 := Lib.hid hacc1
      clear q0
      go_cut [6] (fun i wx => ∃ a : Nat, a ≤ P.length ∧ i = .int .i64 (a : Nat) ∧ Hid (InsAt P (s, x1, x2, x3) a) ∧ Below W0.heap.size W0 wx)
      case first =>
        go_wp2_with fail
        go_loopw [6] (fun i wx => ∃ a : Nat, a ≤ P.length ∧ i = .int .i64 (a : Nat) ∧ Hid (∀ i, a ≤ i → ∀ h : i < P.length, ltOf mcmp (s, x1, x2, x3) P[i] = true) ∧ Below W0.heap.size W0 wx) (fun i _ => (intOf i).toNat)
        case atStart => exact ⟨k, hp2, rfl, fun i hi h => by omega, Below.refl _ _⟩
        case round =>
          obtain ⟨a, ha, rfl, HJ, hbx⟩ := hrel
          have hxz := hbx.size
          have q1 := (Q0.out.keep hbx).cell
          have p0 := q1 0
          have p1 := q1 1
          have p2 := q1 2
          have p3 := q1 3
          simp at p0 p1 p2 p3
          clear q1
          by_cases h0 : 0 < a
          · obtain ⟨n, hn⟩ : ∃ n, n + 1 = a := ⟨a - 1, by omega⟩
            have d0 : decide (0 < a) = true := decide_eq_true h0
            have d1 : decide ((0 : Int) < (a : Int)) = true := decide_eq_true (by omega)
            have hw : IntKind.i64.wrap ((a : Int) - 1) = (n : Int) := by simp [IntKind.wrap, IntKind.bits, IntKind.signed]; omega
            have hnP : n < P.length := by omega
            have hnk : (n : Int) < (k : Int) := by omega
            obtain ⟨b1, off1, e1, hbB1, f0, f1, f2, f3⟩ := (((HA0.out).sl encM_len (by decide)).2.below hbx).mod hnP
            have HX := Lib.hid (show ltOf mcmp (s, x1, x2, x3) P[n] = decide (mcmp (s, x1, x2, x3) P[n] < 0) from rfl)
            have cc0 : ∀ W, Calls Tryz.prog 24 #[.agg #[.string ⟨s.toArray⟩, .int .i64 x1, .int .i64 x2, .int .i64 x3], .agg #[.string ⟨(P[n]).1.toArray⟩, .int .i64 (P[n]).2.1, .int .i64 (P[n]).2.2.1, .int .i64 (P[n]).2.2.2]] W fun e w' => e = .returned (.int .i64 (mcmp (s, x1, x2, x3) P[n])) ∧ Below W.heap.size W w' := fun W => mrefCompare_any _ _ _ _ _ _ _ _ W
            have HJ2 := Lib.hid (show ltOf mcmp (s, x1, x2, x3) P[n] = true → ∀ i, n ≤ i → ∀ h : i < P.length, ltOf mcmp (s, x1, x2, x3) P[i] = true from fun h i hi hP => by
              rcases Nat.lt_or_ge n i with h' | h'
              · exact HJ.out i (by omega) hP
              · obtain rfl : i = n := by omega
                exact h)
            have HJ3 := Lib.hid (show ltOf mcmp (s, x1, x2, x3) P[n] = false → InsAt P (s, x1, x2, x3) a from fun h => ⟨fun i hi hP => by
              obtain rfl : i = n := by omega
              exact h, HJ.out⟩)
            generalize P[n] = y at f0 f1 f2 f3 HX cc0 HJ2 HJ3
            generalize mcmp (s, x1, x2, x3) y = q at HX cc0
            generalize ltOf mcmp (s, x1, x2, x3) y = Q at HX HJ2 HJ3
            have cm := Lib.hid cc0
            clear cc0
            clear HJ
            by_cases hq : q < 0
            · have dq : decide (q < 0) = true := decide_eq_true hq
              have HJ4 := Lib.hid (HJ2.out (by rw [HX.out]; exact dq))
              clear HJ2 HJ3 HX hq
              subst e1
              go_wp2
              go_region_held3 (fun W => W.cell? ⟨g, 0, none⟩ = some (.string ⟨s.toArray⟩) ∧ W.cell? ⟨g, 1, none⟩ = some (.int .i64 x1) ∧ W.cell? ⟨g, 2, none⟩ = some (.int .i64 x2) ∧ W.cell? ⟨g, 3, none⟩ = some (.int .i64 x3) ∧ W.cell? ⟨b1, off1 + n * 4, none⟩ = some (.string ⟨y.1.toArray⟩) ∧ W.cell? ⟨b1, off1 + n * 4 + 1, none⟩ = some (.int .i64 y.2.1) ∧ W.cell? ⟨b1, off1 + n * 4 + 2, none⟩ = some (.int .i64 y.2.2.1) ∧ W.cell? ⟨b1, off1 + n * 4 + 3, none⟩ = some (.int .i64 y.2.2.2)) (first | (simp; done) | (go_split_ands; (repeat' apply And.intro) <;> (first | assumption | (apply cell_keep; assumption; assumption) | (apply cell_keep_alloc; assumption))))
                (first | (go_at_call 24; refine (cm.out _).mono ?_; rintro e w4 ⟨rfl, hb4⟩))
              all_goals go_wp2
              all_goals go_roundw
              case rel => exact ⟨n, by omega, rfl, HJ4.out, hbx.drew.trans (hb4.mono hxz)⟩
              case measure => simp [intOf]; omega
            · have dq : decide (q < 0) = false := decide_eq_false hq
              have HJ4 := Lib.hid (HJ3.out (by rw [HX.out]; exact dq))
              clear HJ2 HJ3 HX hq
              subst e1
              go_wp2
              go_region_held3 (fun W => W.cell? ⟨g, 0, none⟩ = some (.string ⟨s.toArray⟩) ∧ W.cell? ⟨g, 1, none⟩ = some (.int .i64 x1) ∧ W.cell? ⟨g, 2, none⟩ = some (.int .i64 x2) ∧ W.cell? ⟨g, 3, none⟩ = some (.int .i64 x3) ∧ W.cell? ⟨b1, off1 + n * 4, none⟩ = some (.string ⟨y.1.toArray⟩) ∧ W.cell? ⟨b1, off1 + n * 4 + 1, none⟩ = some (.int .i64 y.2.1) ∧ W.cell? ⟨b1, off1 + n * 4 + 2, none⟩ = some (.int .i64 y.2.2.1) ∧ W.cell? ⟨b1, off1 + n * 4 + 3, none⟩ = some (.int .i64 y.2.2.2)) (first | (simp; done) | (go_split_ands; (repeat' apply And.intro) <;> (first | assumption | (apply cell_keep; assumption; assumption) | (apply cell_keep_alloc; assumption))))
                (first | (go_at_call 24; refine (cm.out _).mono ?_; rintro e w4 ⟨rfl, hb4⟩))
              all_goals go_wp2
              all_goals go_meet
              case rel => exact ⟨a, ha, rfl, HJ4.out, hbx.drew.trans (hb4.mono hxz)⟩
          · obtain rfl : a = 0 := by omega
            have HI0 := Lib.hid (show InsAt P (s, x1, x2, x3) 0 from ⟨fun i hi => by omega, HJ.out⟩)
            clear HJ
            go_wp2
            go_quiet (fail)
            go_wp2
            go_meet
            case rel => exact ⟨0, Nat.zero_le _, rfl, HI0.out, hbx.drewN _⟩
      case rest =>
        obtain ⟨a, ha, rfl, HIA, hbx⟩ := hcut
        have hxz := hbx.size
        have hak : a ≤ k := by omega
        have hS := (HA0.out.sl encM_len (by decide)).2.below hbx
        have hS' := hS.more hxz
        have rc1 := fun W => run_cut_hi elMod A1 k c1 a (by omega) W
        have rc2 := fun W => run_cut_lo elMod A1 k c1 a hak W
        have hac0 := Acc.marked wc #[] wc.heap.size 26 4 0 (0, 0) rfl
        have hs1 : Src (wc.alloc (.cells #[] 26)) 4 A1 a ((P.take a).flatMap encM) := by
          have := ((hS'.take a).below ((Below.refl _ _).alloc (Nat.le_refl _) (.cells #[] 26))).src encM_len
          rwa [List.length_take, Nat.min_eq_left ha] at this
        have hS3 := hS'.drop c1 a (by omega)
        have hdl : (P.drop a).length = k - a := by simp; omega
        have q1 := (Q0.out.keep hbx).cell
        have p0 := q1 0
        have p1 := q1 1
        have p2 := q1 2
        have p3 := q1 3
        simp at p0 p1 p2 p3
        clear q1
        have hgz : g < wc.heap.size := by omega
        have HS3 := Lib.hid hS3
        have HBX := Lib.hid hbx
        clear hS hS' hS3 hacc1 hbx
        go_wp2_with (first
          | (at_builtin; refine wpList_app _ rfl (.tmp 30) (.tmp 33) 27 rfl wc.heap.size 26 4 40 elMod _ 0 _ rfl hac0 A1 a c1 ((P.take a).flatMap encM) rfl hs1 (encM_one _) (by simp only [maxLen]; omega) (by omega) (by simp) ?_; intro v1 w1 hacc1 _ hb1 _ ho1; have HO1 := Lib.hid ho1; clear ho1; (have hb1' := ((Below.refl wc.heap.size wc).alloc (Nat.le_refl _) _).trans hb1); (have f0 := cell_keep hb1' p0); (have f1 := cell_keep hb1' p1); (have f2 := cell_keep hb1' p2); (have f3 := cell_keep hb1' p3); (have HY1 := Lib.hid hb1'); clear hb1 hb1')
          | (at_builtin; refine wpList_app _ rfl (.tmp 35) (.tmp 37) 27 rfl wc.heap.size 26 4 40 elMod _ (0 + a) _ rfl (hacc1.alloc _) _ 1 _ _ rfl (Src.lit _ 4 _ _ 1 rfl) (by simp [Value.oneCell']) (by simp only [maxLen]; omega) (by omega) (by have := HY1.out.size; simp; omega) ?_; intro v2 w2 hacc2 _ hb2 _ ho2; have HO2 := Lib.hid ho2; clear ho2; (have HY2 := Lib.hid (HY1.out.trans (((Below.refl wc.heap.size w1).alloc HY1.out.size _).trans hb2))); clear hb2; (have hs3 := (HS3.out.below HY2.out).src encM_len); rw [hdl] at hs3)
          | (at_builtin; refine wpList_app _ rfl (.tmp 39) (.tmp 42) 27 rfl wc.heap.size 26 4 40 elMod _ (0 + a + 1) _ rfl hacc2 _ (k - a) _ _ rfl hs3 (encM_one _) (by simp only [maxLen]; omega) (by omega) HY2.out.size ?_; intro v3 w3 hacc3 _ hb3 _ ho3; have HO3 := Lib.hid ho3; clear ho3; (have HY3 := Lib.hid (HY2.out.trans hb3)); clear hb3))
        go_roundw
        case rel =>
          have hwb : w.heap.size ≤ wc.heap.size := by omega
          have hP' : (P.take a ++ (s, x1, x2, x3) :: P.drop a).length = k + 1 := by simp; omega
          have e3 : 0 + a + 1 + (k - a) = k + 1 := by omega
          have hacc4 := hacc3.less hwb
          rw [e3] at hacc4
          have hf1 : ∀ b, v1.ownBlock = some b → w.heap.size ≤ b := fun b h => by
            rcases HO1.out with h' | ⟨g', h', hg'⟩
            · have h2 : some wc.heap.size = some b := h'.symm.trans h
              injection h2 with h2
              omega
            · rw [h'] at h; injection h with h; simp at hg'; omega
          have hf2 : ∀ b, v2.ownBlock = some b → w.heap.size ≤ b := fun b h => by
            rcases HO2.out with h' | ⟨g', h', hg'⟩
            · rw [h'] at h; exact hf1 b h
            · rw [h'] at h; injection h with h; have := HY1.out.size; simp at hg'; omega
          have hf3 : ∀ b, v3.ownBlock = some b → w.heap.size ≤ b := fun b h => by
            rcases HO3.out with h' | ⟨g', h', hg'⟩
            · rw [h'] at h; exact hf2 b h
            · rw [h'] at h; injection h with h; have := HY2.out.size; omega
          refine ⟨k + 1, P.take a ++ (s, x1, x2, x3) :: P.drop a, by omega, by go_num, hP', ?_, ?_, HI.out a ha HIA.out, Lib.hid hf3, hB1.out.trans ((HBX.out.mono (by omega)).trans (HY3.out.mono hwb))⟩
          · rw [flat_ins]
            exact hacc4
          · have := HN.out a
            rw [HK.out]
            exact this
        case measure => simp [intOf]; omega
    · go_wp2
      go_ret
      obtain ⟨hn, hS⟩ := hacc.sl encM_len (by decide)
      have hms : P = msort l := sorted_eq mlt_swo mlt_total P l HS.out (by have := HP.out; rwa [List.take_of_length_le (by omega)] at this)
      rw [hms] at hS
      have hkl : k = l.length := by omega
      exact ⟨A1, c1, by rw [hkl]; rfl, fun a ha => HF.out a.block (by rw [ha]; rfl), hS, hb⟩
end Go.Proofs.YthcgihgajdjfoaaGreatDoor
