/- Walks: the words of the lines of a text (manifest.lines: an iterator that keeps the rest of the text in its own cell). -/
import Derived.Test.YtbbdoibmcmkmnaaGreatDoorPV
import Derived.Test.YtbbdoibmcmkmnaaGreatDoorRF
import Derived.Test.YtbbdoibmcmkmnaaGreatDoorMem3
import Derived.Test.YtbbdoibmcmkmnaaGreatDoorWF
import Derived.RangeFuncNested
import Derived.RangeFuncBound
import Derived.RangeFuncCalls
import Derived.RangeFuncLeaves
import Derived.RangeFuncFrom
import Derived.RangeFuncBox
import Derived.Shelf.Abstract
import Derived.Shelf.RegionOpen
import Derived.OwnWalkIn
import Derived.TacticsInMore
import Derived.LoopNIn
import Derived.LoopIn
import Derived.Maps.AppendAt
import Derived.Deep.DeepMust
namespace Go.Proofs.YtbbdoibmcmkmnaaGreatDoor
open Go.RowKit Go.Shelf
attribute [local go_sem] Oper.semAt_some

theorem Cut_any (s sep : List UInt8) (w : World) (hs : s.length ≤ 1000000) (hG : Glob w) :
    Calls Tryz.prog 62 #[.string ⟨s.toArray⟩, .string ⟨sep.toArray⟩] w fun e w' => e = .returned (.tuple #[.string ⟨(Lib.cut s sep).1.toArray⟩, .string ⟨(Lib.cut s sep).2.1.toArray⟩, .bool (Lib.cut s sep).2.2]) ∧ ∃ n, w' = w.drewN n := by
  obtain ⟨⟨m, hm⟩, _⟩ := hG
  exact Tryz.strings_Cut ⟨s.toArray⟩ ⟨sep.toArray⟩ m w (by simp [ByteArray.size]; omega) hm
theorem Split_any (s : List UInt8) (b : UInt8) (w : World) (hs : s.length ≤ 1000000) (hG : Glob w) :
    Calls Tryz.prog 36 #[.string ⟨s.toArray⟩, .string ⟨#[b]⟩] w fun e w' => ∃ A, e = .returned (.slice A (splitL b s).length (splitL b s).length) ∧ Sl w' w'.heap.size 1 encS A (splitL b s) ∧ Below w.heap.size w w' := by
  obtain ⟨⟨m, hm⟩, _⟩ := hG
  obtain ⟨he1, he2⟩ := splitB_eq b s.length s (Nat.le_refl _)
  have hcall := Tryz.strings_Split ⟨s.toArray⟩ ⟨#[b]⟩ m w (by simp [ByteArray.size]; omega) hm (by simp [ByteArray.size])
  rw [he1, he2] at hcall
  generalize splitL b s = L at hcall
  refine hcall.mono ?_
  rintro e w' ⟨rfl, rfl⟩
  refine ⟨_, rfl, .inr ⟨w.heap.size, 0, rfl, by simp, fun i hi j v hv => ?_⟩, (Below.refl _ _).alloc (Nat.le_refl _) _⟩
  match j, hv with
  | 0, hv =>
    simp [encS] at hv
    subst hv
    simp [hi]
/-- a slice of words: where it lies, its capacity, the words -/
abbrev Wd := Option Addr × Nat × List (List UInt8)
def encW (x : Wd) : Array Value := #[.slice x.1 x.2.2.length x.2.1]
/-- it can be read, and it is not too great -/
def RdW (B : Nat) (x : Wd) (W : World) : Prop := Sl W W.heap.size 1 encS x.1 x.2.2 ∧ x.2.2.length ≤ 65537 ∧ (∀ t ∈ x.2.2, t.length ≤ 65536) ∧ ∀ a, x.1 = some a → B ≤ a.block
theorem own_at {w : World} {base e size n c : Nat} {A : Option Addr} {xs : List Value} (h : w.ownsRow base e size (.slice A n c) n xs) : ∀ a, A = some a → base ≤ a.block := by
  intro a ha
  rcases h.2 with ⟨h, _⟩ | ⟨g, cap, cur, h, hg, _⟩
  · injection h with h
    rw [h] at ha; cases ha
  · injection h with h
    rw [h] at ha
    injection ha with ha
    subst ha
    exact hg
def wds (pre : List Wd) : List (List (List UInt8)) := pre.map fun x => x.2.2
theorem wds_snoc (pre : List Wd) (x : Wd) : wds (pre ++ [x]) = wds pre ++ [x.2.2] := by simp [wds]
/-- what a round keeps -/
def KpL (n0 Bs : Nat) (A W : World) : Prop := W.cell? ⟨Bs, 0, none⟩ = A.cell? ⟨Bs, 0, none⟩ ∧ W.frozen? ⟨Bs, 0, none⟩ = A.frozen? ⟨Bs, 0, none⟩ ∧ Below n0 A W
def restLen (Bs : Nat) (W : World) : Nat := match W.cell? ⟨Bs, 0, none⟩ with
  | some (.string b) => b.size
  | _ => 0
theorem restLen_of {Bs : Nat} {W : World} {r : List UInt8} (h : W.cell? ⟨Bs, 0, none⟩ = some (.string ⟨r.toArray⟩)) : restLen Bs W = r.length := by
  unfold restLen
  rw [h]
  simp [ByteArray.size]
theorem allW_nil : allW [] = [] := by simp [allW, linesP_nil]
theorem allW_cut (r : List UInt8) (h : r ≠ []) : allW r = wordsL (Lib.cut r [10]).1 :: allW (Lib.cut r [10]).2.1 := by
  unfold allW
  rw [linesP_cut r h, List.map_cons]
/-- words kept among pieces -/
def keepW (l : List (List UInt8)) : List (List UInt8) := l.filter fun w => decide (w ≠ [])
theorem keepW_snoc (l : List (List UInt8)) (k : Nat) (h : k < l.length) : keepW (l.take (k + 1)) = if l[k] = [] then keepW (l.take k) else keepW (l.take k) ++ [l[k]] := by
  unfold keepW
  rw [List.take_succ_eq_append_getElem h, List.filter_append]
  by_cases he : l[k] = []
  · simp [he]
  · simp [he]
theorem keepW_len (l : List (List UInt8)) : (keepW l).length ≤ l.length := List.length_filter_le _ _
theorem infoStr : (Tryz.prog.info? 9).map (fun i => (i.zero, i.size, i.bytes)) = some (some (.string ByteArray.empty), 1, 16) := by kernel_rfl
theorem own_below2 {w w' : World} {base e size n : Nat} {v : Value} {xs : List Value} (h : w.ownsRow base e size v n xs) (hb : Below w.heap.size w w') : w'.ownsRow base e size v n xs :=
  h.kept (row := none) ⟨hb.os, hb.tape, hb.output, hb.size, fun k hk _ => hb.block k hk⟩ (by rcases hv : v.ownBlock with _ | _ <;> simp)
theorem grown_of_below {w w' : World} (hb : Below w.heap.size w w') (row : Option Nat) : w.grownBy w' row := ⟨hb.os, hb.tape, hb.output, hb.size, fun k hk _ => hb.block k hk⟩

set_option maxRecDepth 100000 in
set_option maxHeartbeats 2000000 in
theorem lines1_in (n : Nat) (hn : 1 ≤ n) (l Bs n0 : Nat) (s : List UInt8) (hs : s.length ≤ 65536) (J Jx : List Wd → World → Prop) (W0 : World) (hJ : AbidesFrom W0.heap.size J) (hJs : ∀ s W v, J s W → J s (W.setCell ⟨Bs, 0, none⟩ v))
    (hY : ∀ pre x W, J pre W → RdW (Bs + 1) x W → pre.length < s.length + 1 → YieldAt Fence.wide (n - 1) Tryz.prog l (encW x) W fun e W' =>
      (e = .returned (.bool true) ∧ J (pre ++ [x]) W' ∧ KpL n0 Bs W W') ∨ (e = .returned (.bool false) ∧ Jx (pre ++ [x]) W'))
    (hn0 : n0 ≤ Bs) (hBs : Bs < W0.heap.size) (hB : W0.cell? ⟨Bs, 0, none⟩ = some (.string ⟨s.toArray⟩)) (hF : W0.frozen? ⟨Bs, 0, none⟩ = false) (hG : ∀ W, Below n0 W0 W → Glob W) (h0 : J [] W0) :
    CallsIn Fence.wide n Tryz.prog 61 #[.func (.yield l) #[] #[], .pointer (some ⟨Bs, 0, none⟩)] W0 fun e W' => (∃ v, e = .returned v) ∧
      ((∃ xs, wds xs = allW s ∧ J xs W') ∨ (∃ pre, (∃ r, allW s = wds pre ++ r) ∧ Jx pre W')) := by
  refine callsIn_of_wp Tryz.func61 rfl trivial ?_ rfl
  simp only [Tryz.ntmps61, List.size_toArray, List.length_cons, List.length_nil, Nat.reduceAdd, Nat.reduceSub, Array.replicate_succ, Array.replicate_zero, List.push_toArray, List.append_toArray, List.nil_append, List.cons_append]
  have hJh := Lib.hid hJ
  have hJc := Lib.hid hJs
  have hYh := Lib.hid hY
  have hGh := Lib.hid hG
  clear hJ hY hJs hG
  gi_wp2
  gi_loopw [3] (fun _ wr => ∃ (pre : List Wd) (r : List UInt8), Hid (allW s = wds pre ++ allW r) ∧ pre.length + r.length ≤ s.length ∧ wr.cell? ⟨Bs, 0, none⟩ = some (.string ⟨r.toArray⟩) ∧ wr.frozen? ⟨Bs, 0, none⟩ = false ∧ J pre wr ∧ Below n0 W0 wr) (fun _ wr => restLen Bs wr)
  case atStart => exact ⟨[], s, rfl, by simp, hB, hF, h0, Below.refl _ _⟩
  case round =>
    obtain ⟨pre, r, HA, hpr, hc, hf, hJr, hb⟩ := hrel
    obtain ⟨wo, hwo⟩ : ∃ wo, wo = wr := ⟨_, rfl⟩
    subst hwo
    by_cases hr : r = []
    · subst hr
      have hfin := Lib.hid (show wds pre = allW s by rw [HA.out, allW_nil, List.append_nil])
      gi_wp2
      go_end0
      exact ⟨⟨_, rfl⟩, .inl ⟨pre, hfin.out, hJr⟩⟩
    · have hrl : (0 : Int) < (r.length : Int) := by have := List.length_pos_iff.2 hr; omega
      obtain ⟨cr1, cr2, cr3⟩ := cut_rest r
      have hlt := cr2 hr
      have HC := Lib.hid (allW_cut r hr)
      have cC := Cut_any r [10] wo (by omega) (hGh.out wo hb)
      generalize (Lib.cut r [10]).1 = x at cC HC cr3
      generalize (Lib.cut r [10]).2.1 = rest at cC HC cr1 cr2 hlt
      generalize (Lib.cut r [10]).2.2 = fl at cC
      have c1 := Lib.hid cC
      clear cC cr2
      have hwd : wordsL x = keepW (splitL 32 (cmt x)) := rfl
      rw [hwd] at HC
      clear hwd
      have c2 := Lib.hid (fun W (hW : Below n0 W0 W) => Cut_any x [47, 47] W (by omega) (hGh.out W hW))
      have hcm := cmt_len x
      have ec : (Lib.cut x [47, 47]).1 = cmt x := rfl
      rw [ec] at c2
      clear ec
      generalize cmt x = y at c2 HC hcm
      generalize (Lib.cut x [47, 47]).2.1 = y2 at c2
      generalize (Lib.cut x [47, 47]).2.2 = y3 at c2
      have c3 := Lib.hid (fun W (hW : Below n0 W0 W) => Split_any y 32 W (by omega) (hGh.out W hW))
      obtain ⟨hsl, hsx⟩ := splitL_len 32 y
      generalize splitL 32 y = L at c3 HC hsl hsx
      gi_wp2_with fail
      refine ⟨trivial, ?_⟩
      refine (callsIn_wide.2 c1.out).mono ?_
      clear c1
      rintro e w1 ⟨rfl, q1, rfl⟩
      have hbS : Below n0 W0 ((wo.drewN q1).setCell ⟨Bs, 0, none⟩ (.string ⟨rest.toArray⟩)) := (hb.drewN q1).setCell (p := ⟨Bs, 0, none⟩) hn0 _
      have hJS := hJc.out pre _ (.string ⟨rest.toArray⟩) (hJh.out pre wo (wo.drewN q1) none hJr (grown_of_below ((Below.refl _ _).drewN q1) none) (fun r e => by cases e))
      have hcS : ((wo.drewN q1).setCell ⟨Bs, 0, none⟩ (.string ⟨rest.toArray⟩)).cell? ⟨Bs, 0, none⟩ = some (.string ⟨rest.toArray⟩) := World.cell?_setCell_same' _ _ _ (by show (wo.cell? _).isSome = true; rw [hc]; rfl)
      have hfS : ((wo.drewN q1).setCell ⟨Bs, 0, none⟩ (.string ⟨rest.toArray⟩)).frozen? ⟨Bs, 0, none⟩ = false := by rw [World.frozen?_setCell]; exact hf
      have hHS := Lib.hid hbS
      have hJ1 := Lib.hid hJS
      have hc1 := Lib.hid hcS
      have hf1 := Lib.hid hfS
      clear hbS hJS hcS hfS
      gi_wp2_with fail
      refine ⟨trivial, ?_⟩
      refine (callsIn_wide.2 (c2.out _ hHS.out)).mono ?_
      clear c2
      rintro e w2 ⟨rfl, q2, rfl⟩
      gi_wp2_with fail
      refine ⟨trivial, ?_⟩
      refine (callsIn_wide.2 (c3.out _ (hHS.out.drewN q2))).mono ?_
      clear c3
      rintro e w3 ⟨A3, rfl, hS3, hb3⟩
      have hzS : W0.heap.size ≤ (((wo.drewN q1).setCell ⟨Bs, 0, none⟩ (.string ⟨rest.toArray⟩)).drewN q2).heap.size := (hHS.out.drewN q2).size
      have hzo := hzS
      have hB3 := Lib.hid ((hHS.out.drewN q2).trans (hb3.mono (by omega)))
      have hJ3 := Lib.hid (hJh.out pre _ w3 none hJ1.out (grown_of_below (((Below.refl _ _).drewN q2).trans hb3) none) (fun r e => by cases e))
      have hc3 := Lib.hid (cell_keep hb3 hc1.out)
      have hf3 := Lib.hid ((hb3.frozen (show (⟨Bs, 0, none⟩ : Addr).block < _ from by show Bs < _; omega)).trans hf1.out)
      have hz3 : Bs < w3.heap.size := by have := hb3.size; omega
      obtain ⟨i0, hi, hzz0, hzz1, hzz2⟩ := info_parts infoStr
      have hco := Lib.hid hc
      clear hb3 hzS hzo hHS hJ1 hc1 hf1 hJr hc hf hb
      gi_wp2
      gi_loopw [6, 28] (fun v i wr => ∃ (k : Nat) (m : Nat) (K : List (List UInt8)) (u : Value), u = v ∧ k ≤ L.length ∧ i = .int .i64 (k : Nat) ∧ Hid (K = keepW (L.take k)) ∧ m = K.length ∧ m ≤ k ∧ wr.ownsRow w3.heap.size 9 1 u m (strs K) ∧ Below w3.heap.size w3 wr) (fun _ i _ => L.length - (intOf i).toNat)
      case atStart => exact ⟨0, 0, [], _, rfl, Nat.zero_le _, rfl, rfl, rfl, Nat.le_refl _, World.ownsRow_nil _ _ _ _, Below.refl _ _⟩
      case round =>
        obtain ⟨k, m, K, v, rfl, hk, rfl, HK, hmK, hmk, hrow, hbi⟩ := hrel
        have hiz := hbi.size
        by_cases hlt2 : k < L.length
        · have hlt' : (k : Int) < (L.length : Int) := by omega
          obtain ⟨b, off, rfl, hbB, g0⟩ := (hS3.below hbi).str hlt2
          have HN := Lib.hid (keepW_snoc L k hlt2)
          generalize L[k] = t at g0 HN
          by_cases ht : t = []
          · subst ht
            have HN' := Lib.hid (show K = keepW (L.take (k + 1)) by rw [HN.out, if_pos rfl, HK.out])
            gi_wp2
            go_roundw
            case rel => exact ⟨k + 1, m, K, v, rfl, by omega, by go_num, HN'.out, hmK, by omega, hrow, hbi⟩
            case measure => simp [intOf]; omega
          · have HN' := Lib.hid (show K ++ [t] = keepW (L.take (k + 1)) by rw [HN.out, if_neg ht, HK.out])
            have d1 : (t == ([] : List UInt8)) = false := beq_eq_false_iff_ne.2 ht
            have d2 : t.isEmpty = false := by cases t with
              | nil => exact absurd rfl ht
              | cons _ _ => rfl
            have b0 : m + 1 ≤ maxLen := by unfold maxLen; omega
            have b1 : (m + 1) * 16 ≤ 140737488355328 := by omega
            gi_wp2_with (gi_at_builtin; go_must (refine wpListIn_append_own _ rfl (.tmp 34) (.tmp 36) 43 rfl w3.heap.size 9 i0 (.string ByteArray.empty) 1 16 Tryz.underlying43 hi hzz0 hzz1 hzz2 rfl (by decide) v _ _ ?e1 (hrow.alloc _) ⟨wr.heap.size, 0, none⟩ 1 1 [.string ⟨t.toArray⟩] ?e2 rfl (cell_one_new _ _ _) (by simp [Value.oneCell']) b0 b1 (by simp; omega) ?_; (try (case e1 => rfl)); (try (case e2 => rfl)); intro v' w4 hown' hgrow _))
            have hb4 := Lib.hid ((hbi.alloc hiz (.cells #[.string ⟨t.toArray⟩] 9)).grown hgrow (by simp; omega) (fun q e => (hrow.lt q e).1))
            have HO := Lib.hid hown'
            clear hown' hgrow
            go_roundw
            case rel => exact ⟨k + 1, m + 1, K ++ [t], _, rfl, by omega, by go_num, HN'.out, by simp [hmK], by omega, by rw [strs_snoc]; exact HO.out, hb4.out⟩
            case measure => simp [intOf]; omega
        · obtain rfl : k = L.length := by omega
          have hK : K = keepW L := by rw [HK.out, List.take_of_length_le (Nat.le_refl _)]
          subst hmK
          obtain ⟨A4, c4, rfl⟩ := Acc.shape (.inl hrow)
          have hSl := ((Acc.strs_ (.inl hrow)).2 : Sl wr wr.heap.size 1 encS A4 K)
          have hkl := keepW_len L
          have hkx : ∀ t ∈ K, t.length ≤ 65536 := fun t ht => by
            rw [hK] at ht
            have := hsx t (List.mem_filter.1 ht).1
            omega
          rw [← hK] at HC hkl
          have hJ4 := hJh.out pre w3 wr none hJ3.out (grown_of_below hbi none) (fun r e => by cases e)
          have hc4 := cell_keep hbi hc3.out
          have hf4 := (hbi.frozen (show (⟨Bs, 0, none⟩ : Addr).block < _ from hz3)).trans hf3.out
          have hB4 := Lib.hid (hB3.out.trans (hbi.mono (by omega)))
          have HP := Lib.hid (show allW s = wds (pre ++ [(A4, c4, K)]) ++ allW rest by rw [HA.out, HC.out, wds_snoc]; simp)
          obtain ⟨fn, tmps, assign, body, hy, hR⟩ := hYh.out pre (A4, c4, K) wr hJ4 ⟨hSl, by show K.length ≤ 65537; omega, hkx, fun a ha => by have := own_at hrow a ha; omega⟩ (by omega)
          dsimp only [encW] at hy
          clear hK HK hSl hkx hJ4
          gi_wp2
          refine hR.mono ?_
          rintro e W3 (⟨rfl, hJ5, hk1, hk2, hk3⟩ | ⟨rfl, hJx3⟩)
          · gi_wp2
            go_roundw
            case rel => exact ⟨pre ++ [(A4, c4, K)], rest, HP.out, by simp; omega, hk1.trans hc4, hk2.trans hf4, hJ5, hB4.out.trans hk3⟩
            case measure => rw [restLen_of (hk1.trans hc4), restLen_of hco.out]; exact hlt
          · gi_wp2
            refine bodyPost_ret (results_none rfl _ _ _) rfl ?_
            exact ⟨⟨_, rfl⟩, .inr ⟨_, ⟨_, HP.out⟩, hJx3⟩⟩
end Go.Proofs.YtbbdoibmcmkmnaaGreatDoor
