/- Walk: the needed modules (Needed). -/
import Derived.Test.YtfiilbdkhelhgaaGreatDoorWR3
import Derived.Test.YtfiilbdkhelhgaaGreatDoorWS9
namespace Go.Proofs.YtfiilbdkhelhgaaGreatDoor
open Go.RowKit Go.Sort

/-- needed modules, each once -/
def RetN (w : World) (R : Regy) (l : List Mod) (e : Ending) (w' : World) : Prop :=
  ∃ (S : List Mod) (A : Option Addr) (c : Nat), e = .returned (.slice A S.length c) ∧ S.Nodup ∧ (∀ m, m ∈ S ↔ Reach R l m) ∧ Sl w' w'.heap.size 4 encM A S ∧ Below w.heap.size w w'
/-- the first loop: each module once -/
structure N1 (l : List Mod) (k : Nat) (O : List Mod) : Prop where
  nod : O.Nodup
  mem : ∀ m, m ∈ O ↔ m ∈ l.take k
theorem N1.old {l O : List Mod} {k : Nat} (h : N1 l k O) (hk : k < l.length) (hm : l[k] ∈ O) : N1 l (k + 1) O :=
  ⟨h.nod, fun m => by
    rw [List.take_succ_eq_append_getElem hk, List.mem_append, List.mem_singleton, ← h.mem]
    exact ⟨.inl, fun h => h.elim id fun e => e ▸ hm⟩⟩
theorem N1.new {l O : List Mod} {k : Nat} (h : N1 l k O) (hk : k < l.length) (hm : l[k] ∉ O) : N1 l (k + 1) (O ++ [l[k]]) :=
  ⟨List.nodup_append.2 ⟨h.nod, by simp, fun a ha b hb e => hm (by rw [List.mem_singleton.1 hb] at e; exact e ▸ ha)⟩, fun m => by
    rw [List.take_succ_eq_append_getElem hk, List.mem_append, List.mem_append, ← h.mem]⟩
/-- the second loop -/
structure N2 (R : Regy) (l : List Mod) (k : Nat) (O : List Mod) : Prop where
  nod : O.Nodup
  rch : ∀ m ∈ O, Reach R l m
  base : ∀ m ∈ l, m ∈ O
  clos : ∀ j (hj : j < O.length), j < k → ∀ m ∈ reqOf R O[j], m ∈ O
theorem N2.start {R : Regy} {l O : List Mod} (h : N1 l l.length O) : N2 R l 0 O :=
  ⟨h.nod, fun m hm => .base (by have := (h.mem m).1 hm; rwa [List.take_of_length_le (Nat.le_refl _)] at this), fun m hm => (h.mem m).2 (by rwa [List.take_of_length_le (Nat.le_refl _)]), fun j _ h => by omega⟩
theorem N2.len {R : Regy} {l O : List Mod} {k : Nat} (h : N2 R l k O) : O.length ≤ (univ R l).length := nodup_len O _ h.nod fun m hm => (h.rch m hm).univ
theorem N2.fin {R : Regy} {l O : List Mod} (h : N2 R l O.length O) (m : Mod) : m ∈ O ↔ Reach R l m := by
  refine ⟨h.rch m, fun hr => ?_⟩
  induction hr with
  | base h1 => exact h.base _ h1
  | step _ h2 ih =>
    obtain ⟨j, hj, rfl⟩ := List.mem_iff_getElem.1 ih
    exact h.clos j hj hj _ h2
/-- the inner loop: P the list ahead of it -/
structure N3 (R : Regy) (l : List Mod) (k : Nat) (p : Mod) (q : Nat) (O : List Mod) : Prop where
  inv : N2 R l k O
  at_ : O[k]? = some p
  seen : ∀ m ∈ (reqOf R p).take q, m ∈ O
theorem N3.old {R : Regy} {l O : List Mod} {k q : Nat} {p : Mod} (h : N3 R l k p q O) (hq : q < (reqOf R p).length) (hm : (reqOf R p)[q] ∈ O) : N3 R l k p (q + 1) O :=
  ⟨h.inv, h.at_, fun m hmm => by
    rw [List.take_succ_eq_append_getElem hq, List.mem_append, List.mem_singleton] at hmm
    exact hmm.elim (h.seen m) fun e => e ▸ hm⟩
theorem N3.new {R : Regy} {l O : List Mod} {k q : Nat} {p : Mod} (h : N3 R l k p q O) (hq : q < (reqOf R p).length) (hm : (reqOf R p)[q] ∉ O) : N3 R l k p (q + 1) (O ++ [(reqOf R p)[q]]) := by
  have hkl : k < O.length := (List.getElem?_eq_some_iff.1 h.at_).1
  have hp : p ∈ O := List.mem_of_getElem? h.at_
  refine ⟨⟨List.nodup_append.2 ⟨h.inv.nod, by simp, fun a ha b hb e => hm (by rw [List.mem_singleton.1 hb] at e; exact e ▸ ha)⟩, ?_, fun m h1 => List.mem_append_left _ (h.inv.base m h1), ?_⟩, ?_, ?_⟩
  · intro m h1
    rcases List.mem_append.1 h1 with h1 | h1
    · exact h.inv.rch m h1
    · rw [List.mem_singleton.1 h1]
      exact .step (h.inv.rch p hp) (List.getElem_mem hq)
  · intro j hj hjk m h1
    have hjl : j < O.length := by omega
    rw [List.getElem_append_left hjl] at h1
    exact List.mem_append_left _ (h.inv.clos j hjl hjk m h1)
  · rw [List.getElem?_append_left hkl]; exact h.at_
  · intro m hmm
    rw [List.take_succ_eq_append_getElem hq, List.mem_append, List.mem_singleton] at hmm
    rcases hmm with h1 | h1
    · exact List.mem_append_left _ (h.seen m h1)
    · rw [h1]; simp
theorem N3.done {R : Regy} {l O : List Mod} {k : Nat} {p : Mod} (h : N3 R l k p (reqOf R p).length O) : N2 R l (k + 1) O :=
  ⟨h.inv.nod, h.inv.rch, h.inv.base, fun j hj hjk m hm => by
    by_cases hlt : j < k
    · exact h.inv.clos j hj hlt m hm
    · obtain rfl : j = k := by omega
      have e : O[j] = p := by
        have h1 := h.at_
        rw [List.getElem?_eq_getElem hj] at h1
        exact Option.some.inj h1
      rw [e] at hm
      exact h.seen m (by rw [List.take_of_length_le (Nat.le_refl _)]; exact hm)⟩
theorem reqOf_le {R : Regy} {m : Mod} {n : Nat} (h : ∀ x ∈ R, x.2.length ≤ n) : (reqOf R m).length ≤ n := by
  unfold reqOf
  cases hf : R.find? fun x => decide (x.1 = m) with
  | none => simp
  | some y => simpa using h y (List.mem_of_find?_eq_some hf)
/-- a module appended to an own row -/
theorem row_app {w : World} {base n : Nat} {v : Value} {O : List Mod} {m : Mod} (hown : w.ownsRow base 30 4 v n (O.flatMap encM)) (hb : base ≤ w.heap.size) (hn : n ≤ 1000000) :
    ∃ A7 c7 w7, (Builtin.append_ #[31, 31] 31 #[v, .slice (some ⟨w.heap.size, 0, none⟩) 1 1]).run Tryz.prog (w.alloc (.cells #[.string ⟨m.1.toArray⟩, .int .i64 m.2.1, .int .i64 m.2.2.1, .int .i64 m.2.2.2] 30)) = .ok (.slice A7 (n + 1) c7) w7 ∧
      w7.ownsRow base 30 4 (.slice A7 (n + 1) c7) (n + 1) ((O ++ [m]).flatMap encM) ∧ Below base w w7 := by
  have hA : Below w.heap.size w (w.alloc (.cells #[.string ⟨m.1.toArray⟩, .int .i64 m.2.1, .int .i64 m.2.2.1, .int .i64 m.2.2.2] 30)) := (Below.refl _ _).alloc (Nat.le_refl _) _
  have hrow := own_below2 hown hA
  obtain ⟨A7, c7, w7, hr, h2, h3, h4, h5⟩ := run_own2 _ elMod base 31 v _ _ hrow (some ⟨w.heap.size, 0, none⟩) 1 1 [.string ⟨m.1.toArray⟩, .int .i64 m.2.1, .int .i64 m.2.2.1, .int .i64 m.2.2.2] (Src.lit w 4 _ _ 1 rfl) (by decide) (by simp [Value.oneCell']) (by unfold maxLen; omega) (by omega) (by simp; omega)
  refine ⟨A7, c7, w7, hr, ?_, (hA.mono hb).trans h4⟩
  rw [List.flatMap_append]
  exact h2

set_option maxRecDepth 100000 in
set_option maxHeartbeats 4000000 in
theorem Needed_any (A : Option Addr) (c : Nat) (Y : List ManW) (A2 : Option Addr) (c2 : Nat) (l : List Mod) (w : World) (hY : RegOk w w.heap.size A Y) (hS : Sl w w.heap.size 4 encM A2 l) (hl : l.length ≤ 100) :
    Calls Tryz.prog 32 #[.slice A Y.length c, .slice A2 l.length c2] w (RetN w (regW Y) l) := by
  have HY := Lib.hid hY
  have HS := Lib.hid hS
  have hYl := hY.2.2
  obtain ⟨U, hU⟩ : ∃ U, U = (univ (regW Y) l).length := ⟨_, rfl⟩
  have hU2 : U ≤ 10100 := by
    have h3 := univ_len (regW Y) l (by simpa [regW] using hYl) (fun x hx => by
      obtain ⟨y, hy, rfl⟩ := List.mem_map.1 hx
      exact (HY.out.2.1 y hy).2.1)
    omega
  have HU := Lib.hid hU
  have cH := Lib.hid (fun (A3 : Option Addr) (c3 : Nat) (O : List Mod) (n : Nat) (hn : n = O.length) m W (hA : Sl W W.heap.size 4 encM A3 O) (hn2 : n ≤ 1000000) => show Calls Tryz.prog 62 #[.slice A3 n c3, .agg #[.string ⟨m.1.toArray⟩, .int .i64 m.2.1, .int .i64 m.2.2.1, .int .i64 m.2.2.2]] W fun e w' => e = .returned (.bool (decide (m ∈ O))) ∧ Below W.heap.size W w' by
    subst hn
    exact Has_any A3 c3 O m W hA (by omega))
  have cR := Lib.hid (fun m W (hW : Below w.heap.size w W) => Requires_b A c Y m W w.heap.size hW.size (HY.out.keep hW))
  have HRl := Lib.hid (fun m => show (reqOf (regW Y) m).length ≤ 100 from reqOf_le fun x hx => by
    obtain ⟨y, hy, rfl⟩ := List.mem_map.1 hx
    exact (HY.out.2.1 y hy).2.1)
  clear hY hS hU
  generalize hQ : RetN w (regW Y) l = Q
  go_enter Tryz.func32, Tryz.ntmps32
  go_wp2
  go_loopw [5, 6] (fun v i wr => ∃ (k n : Nat) (O : List Mod) (Av : Option Addr) (cv : Nat), i = .int .i64 (k : Nat) ∧ v = .slice Av n cv ∧ k ≤ l.length ∧ n ≤ k ∧ Hid (n = O.length) ∧ Hid (N1 l k O) ∧ Hid (wr.ownsRow w.heap.size 30 4 (.slice Av n cv) n (O.flatMap encM)) ∧ Hid (Below w.heap.size w wr)) (fun _ i _ => l.length - (intOf i).toNat)
  case atStart => exact ⟨0, 0, [], none, 0, rfl, rfl, Nat.zero_le _, Nat.le_refl _, Lib.hid rfl, Lib.hid ⟨List.nodup_nil, by simp⟩, Lib.hid (World.ownsRow_nil _ _ _ _), Lib.hid (Below.refl _ _)⟩
  case round =>
    obtain ⟨wo, hwo⟩ : ∃ wo, wo = wr := ⟨_, rfl⟩
    subst hwo
    obtain ⟨k, n, O, Av, cv, rfl, rfl, hk, hnk, HN, H1, HO, HB⟩ := hrel
    by_cases hlt : k < l.length
    · have hlt' : (k : Int) < (l.length : Int) := by omega
      have HSk := Lib.hid (fun W (hW : Below w.heap.size w W) => (HS.out.below hW).mod hlt)
      obtain ⟨bb, off, hA2, hbB, g0, g1, g2, g3⟩ := (HS.out.below HB.out).mod hlt
      have HOld := Lib.hid (fun h => H1.out.old hlt h)
      have HNew := Lib.hid (fun h => H1.out.new hlt h)
      generalize l[k] = x at g0 g1 g2 g3 HSk HOld HNew
      subst hA2
      have cX := Lib.hid (cH.out Av cv O n HN.out x wo (Acc.slAny (.inl HO.out) encM_len (by decide)) (by omega))
      go_wp2_with fail
      refine cX.out.mono ?_
      rintro e w2 ⟨rfl, hb2⟩
      have HB2 := Lib.hid (HB.out.trans (hb2.mono HB.out.size))
      have HO2 := Lib.hid (own_below2 HO.out hb2)
      clear hb2 cX g0 g1 g2 g3
      by_cases hx : x ∈ O
      · rw [decide_eq_true hx]
        have H1' := Lib.hid (HOld.out hx)
        clear hx HOld HNew
        go_wp2
        go_roundw
        case rel => exact ⟨k + 1, n, O, Av, cv, by go_num, rfl, by omega, by omega, HN, H1', HO2, HB2⟩
        case measure => simp [intOf]; omega
      · rw [decide_eq_false hx]
        have H1' := Lib.hid (HNew.out hx)
        obtain ⟨b2, off2, hA3, hb3, e0, e1, e2, e3⟩ := HSk.out w2 HB2.out
        injection hA3 with hA3
        injection hA3 with e4 e5
        subst e4 e5
        obtain ⟨A7, c7, w7, hap, hO7, hb7⟩ := row_app (m := x) HO2.out HB2.out.size (by omega)
        have HO7 := Lib.hid hO7
        have HB7 := Lib.hid (HB2.out.trans hb7)
        have HN7 := Lib.hid (show n + 1 = (O ++ [x]).length by rw [List.length_append, ← HN.out]; rfl)
        clear hx HOld HNew hO7 hb7
        go_wp2_with (at_builtin; refine wpList_app1 rfl _ _ _ _ rfl _ _ rfl rfl hap ?_)
        go_roundw
        case rel => exact ⟨k + 1, n + 1, O ++ [x], A7, c7, by go_num, rfl, by omega, by omega, HN7, H1', HO7, HB7⟩
        case measure => simp [intOf]; omega
    · obtain rfl : k = l.length := by omega
      have H2 := Lib.hid (N2.start (R := regW Y) H1.out)
      have hnU : n ≤ U := by rw [HN.out, HU.out]; exact H2.out.len
      clear H1
      go_wp2
      go_loopw [5, 7] (fun v i wr => ∃ (k n : Nat) (O : List Mod) (Av : Option Addr) (cv : Nat), i = .int .i64 (k : Nat) ∧ v = .slice Av n cv ∧ k ≤ n ∧ n ≤ U ∧ Hid (n = O.length) ∧ Hid (N2 (regW Y) l k O) ∧ Hid (wr.ownsRow w.heap.size 30 4 (.slice Av n cv) n (O.flatMap encM)) ∧ Hid (Below w.heap.size w wr)) (fun _ i _ => U - (intOf i).toNat)
      case atStart => exact ⟨0, n, O, _, cv, rfl, rfl, Nat.zero_le _, hnU, HN, H2, HO, HB⟩
      case round =>
        obtain ⟨wo, hwo⟩ : ∃ wo, wo = wr := ⟨_, rfl⟩
        subst hwo
        obtain ⟨k2, n2, O2, Av2, cv2, rfl, rfl, hk2, hnk2, HN2, H3, HO2, HB2⟩ := hrel
        by_cases hlt2 : k2 < n2
        · have hlt2' : (k2 : Int) < (n2 : Int) := by omega
          have hltO : k2 < O2.length := by rw [← HN2.out]; exact hlt2
          obtain ⟨bb, off, hA2, hbB, g0, g1, g2, g3⟩ := (Acc.slAny (.inl HO2.out) encM_len (by decide)).mod hltO
          have HPk := Lib.hid (List.getElem?_eq_getElem hltO)
          generalize O2[k2] = p at g0 g1 g2 g3 HPk
          subst hA2
          have cX := Lib.hid (cR.out p wo HB2.out)
          go_wp2_with fail
          refine cX.out.mono ?_
          rintro e w3 ⟨A3, c3, rfl, hS3, hb3⟩
          have HB3 := Lib.hid (HB2.out.trans (hb3.mono HB2.out.size))
          have HO3 := Lib.hid (own_below2 HO2.out hb3)
          have HS3 := Lib.hid (fun W (hW : Below w.heap.size w3 W) => hS3.below hW)
          have HI0 := Lib.hid (show N3 (regW Y) l k2 p 0 O2 from ⟨H3.out, HPk.out, by simp⟩)
          have hrl := HRl.out p
          obtain ⟨rl, hrl2⟩ : ∃ rl, rl = (reqOf (regW Y) p).length := ⟨_, rfl⟩
          rw [← hrl2] at hrl ⊢
          have HRL := Lib.hid hrl2
          clear hb3 hS3 cX g0 g1 g2 g3 hrl2
          go_wp2
          go_loopw [5, 9] (fun v i wr => ∃ (q n : Nat) (O : List Mod) (Av : Option Addr) (cv : Nat), i = .int .i64 (q : Nat) ∧ v = .slice Av n cv ∧ q ≤ rl ∧ n ≤ U ∧ k2 < n ∧ Hid (n = O.length) ∧ Hid (N3 (regW Y) l k2 p q O) ∧ Hid (wr.ownsRow w.heap.size 30 4 (.slice Av n cv) n (O.flatMap encM)) ∧ Hid (Below w.heap.size w3 wr)) (fun _ i _ => rl - (intOf i).toNat)
          case atStart => exact ⟨0, n2, O2, _, cv2, rfl, rfl, Nat.zero_le _, hnk2, hlt2, HN2, HI0, HO3, Lib.hid (Below.refl _ _)⟩
          case round =>
            obtain ⟨q, n4, O4, Av4, cv4, rfl, rfl, hq, hn4, hk4, HN4, H4, HO4, HB4⟩ := hrel
            by_cases hlt4 : q < rl
            · have hlt4' : (q : Int) < (rl : Int) := by omega
              have hq4 : q < (reqOf (regW Y) p).length := by rw [← HRL.out]; exact hlt4
              have HSq := Lib.hid (fun W (hW : Below w.heap.size w3 W) => (HS3.out W hW).mod hq4)
              obtain ⟨bb, off, hA3, hbB, g0, g1, g2, g3⟩ := HSq.out wr HB4.out
              have HOld := Lib.hid (fun h => H4.out.old hq4 h)
              have HNew := Lib.hid (fun h => H4.out.new hq4 h)
              generalize (reqOf (regW Y) p)[q] = x at g0 g1 g2 g3 HSq HOld HNew
              subst hA3
              have cX := Lib.hid (cH.out Av4 cv4 O4 n4 HN4.out x wr (Acc.slAny (.inl HO4.out) encM_len (by decide)) (by omega))
              go_wp2_with fail
              refine cX.out.mono ?_
              rintro e w5 ⟨rfl, hb5⟩
              have hzz : w.heap.size ≤ wr.heap.size := Nat.le_trans HB3.out.size HB4.out.size
              have HB5 := Lib.hid (HB4.out.trans (hb5.mono hzz))
              have HO5 := Lib.hid (own_below2 HO4.out hb5)
              clear hb5 cX g0 g1 g2 g3
              by_cases hx : x ∈ O4
              · rw [decide_eq_true hx]
                have H5 := Lib.hid (HOld.out hx)
                clear hx HOld HNew
                go_wp2
                go_roundw
                case rel => exact ⟨q + 1, n4, O4, Av4, cv4, by go_num, rfl, by omega, hn4, hk4, HN4, H5, HO5, HB5⟩
                case measure => simp [intOf]; omega
              · rw [decide_eq_false hx]
                have H5 := Lib.hid (HNew.out hx)
                obtain ⟨b2, off2, hA3, hb3, e0, e1, e2, e3⟩ := HSq.out w5 HB5.out
                injection hA3 with hA3
                injection hA3 with e4 e5
                subst e4 e5
                obtain ⟨A7, c7, w7, hap, hO7, hb7⟩ := row_app (m := x) HO5.out (Nat.le_trans HB3.out.size HB5.out.size) (by omega)
                have HO7 := Lib.hid hO7
                have HB7 := Lib.hid (HB5.out.trans hb7)
                have HN7 := Lib.hid (show n4 + 1 = (O4 ++ [x]).length by rw [List.length_append, ← HN4.out]; rfl)
                have hn7 : n4 + 1 ≤ U := by rw [HN7.out, HU.out]; exact H5.out.inv.len
                clear hx HOld HNew hO7 hb7
                go_wp2_with (at_builtin; refine wpList_app1 rfl _ _ _ _ rfl _ _ rfl rfl hap ?_)
                go_roundw
                case rel => exact ⟨q + 1, n4 + 1, O4 ++ [x], A7, c7, by go_num, rfl, by omega, hn7, by omega, HN7, H5, HO7, HB7⟩
                case measure => simp [intOf]; omega
            · have hqe : q = rl := by omega
              have h5 := H4.out
              rw [hqe, HRL.out] at h5
              have H5 := Lib.hid h5.done
              clear h5
              subst hqe
              go_wp2
              go_roundw
              case rel => exact ⟨k2 + 1, n4, O4, _, cv4, by go_num, rfl, by omega, hn4, HN4, H5, HO4, Lib.hid (HB3.out.trans HB4.out)⟩
              case measure => simp [intOf]; omega
        · obtain rfl : k2 = n2 := by omega
          have h5 := H3.out
          rw [HN2.out] at h5
          have hsl := (Acc.slAny (.inl HO2.out) encM_len (by decide) : Sl wo wo.heap.size 4 encM Av2 O2)
          have HF := Lib.hid (show Q (.returned (.slice Av2 k2 cv2)) wo by
            rw [← hQ, HN2.out]
            exact ⟨O2, Av2, cv2, rfl, h5.nod, h5.fin, hsl, HB2.out⟩)
          clear h5 hsl
          go_wp2
          exact HF.out
end Go.Proofs.YtfiilbdkhelhgaaGreatDoor
