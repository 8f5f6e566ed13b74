/- Walks: the check of a manifest. -/
import Derived.Test.YtfiilbdkhelhgaaDoorWJ
import Derived.Test.YtfiilbdkhelhgaaDoorG1
import Derived.Test.YtfiilbdkhelhgaaDoorShelf2
import Derived.Maps.OwnSet
import Derived.StringKeys
namespace Go.Proofs.YtfiilbdkhelhgaaDoor
open Go.RowKit
open Go.Maps (Keyed)

/-- A map of strings to bools, the call's own: S says what is true in it. -/
def Seen (w : World) (b n : Nat) (S : List UInt8 → Bool) : Prop :=
  ∃ D : DataW Unit, w.ownsMap Tryd.prog 9 (plainElem Tryd.prog 4) b n D ∧ ∀ s : List UInt8, D.atKey (.string s) (.lit (.bool false)) = .lit (.bool (S s))
theorem keyS (s : List UInt8) (h : s.length ≤ maxLen) : keyOf Tryd.prog 9 (.string ⟨s.toArray⟩) = some (.string s) := by
  have := WideMaps.keyOf_string_mk (P := Tryd.prog) Tryd.underlying9 (s := ⟨s.toArray⟩) (by simpa [ByteArray.size] using h)
  simpa using this
theorem Seen.made (w : World) : Seen (w.alloc (.map #[] 0)) w.heap.size 0 (fun _ => false) :=
  ⟨.map [], World.ownsMap_made _ _ _ _, fun _ => rfl⟩
theorem Seen.kept {w w' : World} {b n : Nat} {S : List UInt8 → Bool} {row : Option Nat} (h : Seen w b n S) (hg : w.grownBy w' row) (hne : some b ≠ row) : Seen w' b n S := by
  obtain ⟨D, h1, h2⟩ := h
  exact ⟨D, h1.kept hg hne, h2⟩
theorem Seen.alloc {w : World} {b n : Nat} {S : List UInt8 → Bool} (h : Seen w b n S) (o : Obj) : Seen (w.alloc o) b n S := h.kept (World.grownBy_alloc w o none) (by simp)
theorem plainElem_bool_inv {H : Type} {P : Program} {e : TypeId} (he : P.underlying e = some .bool) {v : Value} {x : Bool} {ps : List MemPlace} (h : plainElem (H := H) P e v = some (.lit (.bool x), ps)) : v = .bool x := by
  unfold plainElem at h
  rw [he] at h
  cases v <;> simp at h
  rw [h.1]
theorem Seen.look {w : World} {b n : Nat} {S : List UInt8 → Bool} (h : Seen w b n S) (s : List UInt8) (hs : s.length ≤ maxLen) :
    (Instr.lookup 73 (.map (some b)) (.string ⟨s.toArray⟩) false).run Tryd.prog w = .ok (.bool (S s)) w := by
  obtain ⟨D, h1, h2⟩ := h
  obtain ⟨v, ps, hrun, hv⟩ := h1.lookup (Maps.string_keyed Tryd.underlying9) Tryd.underlying73 (Tryd.zeroValue4 w) (plainElem_bool Tryd.underlying4 false) (keyS s hs)
  rw [h2] at hv
  rw [hrun, plainElem_bool_inv Tryd.underlying4 hv]
theorem Seen.put {w : World} {b n : Nat} {S : List UInt8 → Bool} (h : Seen w b n S) (hn : n < maxLen) (s : List UInt8) (hs : s.length ≤ maxLen) :
    ∃ w', (Instr.mapUpdate 73 (.map (some b)) (.string ⟨s.toArray⟩) (.bool true)).run Tryd.prog w = .ok () w' ∧ Seen w' b (n + 1) (fun t => S t || decide (t = s)) ∧ w.grownBy w' (some b) := by
  obtain ⟨D, h1, h2⟩ := h
  obtain ⟨w', hrun, h3, h4⟩ := h1.update (Maps.string_keyed Tryd.underlying9) Tryd.underlying73 hn (keyS s hs) (plainElem_bool Tryd.underlying4 true)
  refine ⟨w', hrun, ⟨_, h3, fun t => ?_⟩, h4⟩
  by_cases ht : t = s
  · subst ht
    rw [Maps.atKey_put_same h1.isMap (by exact True.intro)]
    simp
  · rw [Maps.atKey_put_other (by intro e; exact ht (by injection e))]
    rw [h2]
    simp [ht]

def clampM (m : Mod) : Mod := if m.1.length ≤ maxLen then m else default
theorem clampM_id (m : Mod) (h : m.1.length ≤ maxLen) : clampM m = m := by simp [clampM, h]
theorem clampM_ok (m : Mod) : (clampM m).1.length ≤ maxLen := by
  unfold clampM
  split
  · assumption
  · exact Nat.zero_le _
theorem clampM_any (p : Mod → Bool) : ∀ l : List Mod, (∀ x ∈ l, x.1.length ≤ maxLen) → l.any (fun x => p (clampM x)) = l.any p
  | [], _ => rfl
  | x :: l, h => by
    simp only [List.any_cons]
    rw [clampM_id x (h x (by simp)), clampM_any p l (fun y hy => h y (by simp [hy]))]
theorem contains_any (p : Mod → Bool) (g : Nat) (eg : ∀ args w, (callFunc g args).run Tryd.prog w = .ok (.enter g args) w) (A : Option Addr) (c : Nat) (l : List Mod) (w : World) (hA : Sl w w.heap.size 4 encM A l) (hne : l ≠ []) (hl : l.length ≤ 4611686018427387904)
    (hs : ∀ x ∈ l, x.1.length ≤ maxLen)
    (hp : ∀ W x, x.1.length ≤ maxLen → Below w.heap.size w W → Calls Tryd.prog g #[.agg (encM x).toArray] W fun e w' => e = .returned (.bool (p x)) ∧ Below W.heap.size W w') :
    Calls Tryd.prog 43 #[.slice A l.length c, .func (.func g) #[] #[]] w fun e w' => e = .returned (.bool (l.any p)) ∧ Below w.heap.size w w' := by
  rcases hA with rfl | ⟨b, off, rfl, hb, hc⟩
  · exact absurd rfl hne
  · have hcon := AnyQ.slices_IndexFunc Tryd.idxM 4 Tryd.isAgg26 Tryd.sizeOf26 (fun x => encM (clampM x)) (fun x => encM_len _) (fun x => p (clampM x)) g #[] eg b off l.length c l w
      (fun W x hW => (hp W (clampM x) (clampM_ok x) hW).mono fun e w' ⟨h1, h2⟩ => ⟨h1, hW.trans (h2.mono hW.size)⟩) (Nat.le_refl _) (by omega) hb (fun j hj i v hi => by
      have : l[j]! = l[j] := by simp [hj]
      rw [this, clampM_id _ (hs _ (List.getElem_mem hj))] at hi
      exact hc j hj i v hi)
    rw [List.take_length] at hcon
    have hres := Lib.hid ((Lib.idxBy_nonneg_iff (fun _ y => p (clampM y)) l default).trans (clampM_any p l hs))
    change Calls Tryd.prog 36 _ _ _ at hcon
    clear hc hp
    generalize Lib.idxBy (fun _ y => p (clampM y)) l default = r at hcon hres
    go_enter Tryd.func43, Tryd.ntmps43
    go_wp2_with (go_at_call 36; refine hcon.mono ?_; rintro e w1 ⟨rfl, hb⟩)
    go_ret
    exact ⟨by rw [← hres.out]; rfl, hb⟩

set_option maxRecDepth 100000 in
set_option maxHeartbeats 4000000 in
theorem Check_any (m : Mod) (A : Option Addr) (c : Nat) (l : List Mod) (w : World) (hA : Sl w w.heap.size 4 encM A l) (hl : l.length ≤ 1099511627776) (hs : ∀ x ∈ m :: l, x.1.length ≤ maxLen) (hG : Glob w) :
    Calls Tryd.prog 27 #[.agg #[.string ⟨m.1.toArray⟩, .int .i64 m.2.1, .int .i64 m.2.2.1, .int .i64 m.2.2.2, .slice A l.length c]] w fun e w' => e = .returned (.int .i64 (mcheck m l)) ∧ Below w.heap.size w w' := by
  have cmod := Lib.hid (modules_any m A c l (w.alloc (.cells #[.string ⟨m.1.toArray⟩, .int .i64 m.2.1, .int .i64 m.2.2.1, .int .i64 m.2.2.2, .slice A l.length c] 29)) ((hA.below ((Below.refl _ _).alloc (Nat.le_refl _) _)).more (by simp)) hl)
  have HG := Lib.hid hG
  clear hG hA
  go_enter Tryd.func27, Tryd.ntmps27
  go_wp2_with (go_at_call 42; refine cmod.out.mono ?_; rintro e w1 ⟨A1, c1, rfl, hc1, hS1, hb1⟩)
  have kreq := cell_keep (p := ⟨w.heap.size, 4, none⟩) (v := .slice A l.length c) hb1 (by simp)
  have hB1 : Below w.heap.size w w1 := ((Below.refl _ _).alloc (Nat.le_refl _) _).trans (hb1.mono (by simp))
  have HG1 := Lib.hid (HG.out.keep hB1)
  clear HG cmod hb1
  have hLl : (m :: l).length = l.length + 1 := rfl
  have hmc := Lib.hid (mcheck.eq_1 m l)
  generalize hL : m :: l = L at hS1 hs hLl hc1 hmc ⊢
  clear hL
  rw [hLl] at hc1
  have hBl := lt_of_cell kreq
  have hsz1 := hB1.size
  have hm0 := Seen.made w1
  have hmm := @run_makeMap Tryd.prog
  go_wp2
  go_loopw [5, 13] (fun tw i wr => ∃ k, k ≤ L.length ∧ i = .int .i64 (k : Nat) ∧ tw = .bool (dupK L k) ∧ Seen wr w1.heap.size k (fun s => (L.take k).any fun y => decide (y.1 = s)) ∧ Below w1.heap.size w1 wr)
    (fun _ i _ => L.length - (intOf i).toNat)
  case atStart => exact ⟨0, Nat.zero_le _, rfl, rfl, hm0, (Below.refl _ _).alloc (Nat.le_refl _) _⟩
  case round =>
    obtain ⟨k, hk, rfl, rfl, hm, hb⟩ := hrel
    have hbz := hb.size
    by_cases hlt : k < L.length
    · have hlt' : (k : Int) < (l.length : Int) + 1 := by omega
      obtain ⟨b, off, rfl, hbB, g0, g1, g2, g3⟩ := (hS1.below hb).mod hlt
      have hg : L.getD k default = L[k] := by simp [hlt]
      have HD := Lib.hid (dupK_succ L k)
      have HT := Lib.hid (fun s => any_take_succ (fun y : Mod => decide (y.1 = s)) L k hlt)
      have hxs := hs L[k] (List.getElem_mem hlt)
      unfold dupAt at HD
      rw [hg] at HD
      clear hg
      generalize L[k] = x at g0 g1 g2 g3 HD HT hxs
      obtain ⟨s, x1, x2, x3⟩ := x
      simp only at g0 g1 g2 g3 HD HT hxs
      have hlook := (hm.alloc (.cells #[.string ⟨s.toArray⟩, .int .i64 x1, .int .i64 x2, .int .i64 x3] 26)).look s hxs
      obtain ⟨w2, hput, hm2, hg2⟩ := (hm.alloc (.cells #[.string ⟨s.toArray⟩, .int .i64 x1, .int .i64 x2, .int .i64 x3] 26)).put (by simp only [maxLen]; omega) s hxs
      have hcon := fun t => (HT.out t).symm
      generalize hq : ((L.take k).any fun y => decide (y.1 = s)) = q at hlook HD
      clear hq hcon
      cases hd : dupK L k
      · rw [hd] at HD
        go_wp2
        go_roundw
        case rel =>
          refine ⟨k + 1, by omega, by go_num, by rw [HD.out]; rfl, ?_, (hb.alloc hbz _).grown hg2 (by simp; omega) (by simp)⟩
          have e : (fun t => (List.take (k + 1) L).any fun y => decide (y.1 = t)) = fun t => ((List.take k L).any fun y => decide (y.1 = t)) || decide (t = s) := by
            funext t
            rw [HT.out t]
            congr 1
            exact decide_eq_decide.2 eq_comm
          rw [e]
          exact hm2
        case measure => simp [intOf]; omega
      · rw [hd] at HD
        go_wp2
        go_roundw
        case rel =>
          refine ⟨k + 1, by omega, by go_num, by rw [HD.out]; rfl, ?_, (hb.alloc hbz _).grown hg2 (by simp; omega) (by simp)⟩
          have e : (fun t => (List.take (k + 1) L).any fun y => decide (y.1 = t)) = fun t => ((List.take k L).any fun y => decide (y.1 = t)) || decide (t = s) := by
            funext t
            rw [HT.out t]
            congr 1
            exact decide_eq_decide.2 eq_comm
          rw [e]
          exact hm2
        case measure => simp [intOf]; omega
    · obtain rfl : k = l.length + 1 := by omega
      have hne : L ≠ [] := by intro e; rw [e] at hLl; simp at hLl
      have hGr := HG1.out.keep hb
      have cA := contains_any badPath 44 (enters_of Tryd.func44 (by kernel_rfl) rfl) A1 c1 L wr ((hS1.below hb).more hbz) hne (by omega) hs (fun W x hx hW => bad1_any x W hx (hGr.keep hW))
      have cB := Lib.hid (fun (W : World) (hW : Below wr.heap.size wr W) => contains_any badVer 46 (enters_of Tryd.func46 (by kernel_rfl) rfl) A1 c1 L W (((hS1.below hb).more hbz).below hW |>.more hW.size) hne (by omega) hs (fun W' x hx hW' => bad2_any x W'))
      rw [hLl] at cA cB
      have hreq := below_cell (hb.mono (Nat.le_refl _)) kreq hBl
      have hBz := Lib.hid (hB1.trans (hb.mono hsz1))
      clear hm0 hm
      generalize L.any badPath = qa at cA hmc
      generalize L.any badVer = qb at cB hmc
      generalize dupK L (l.length + 1) = qc at hmc ⊢
      cases qa
      · cases qb
        · cases qc
          · by_cases h64 : 64 < l.length
            · have h64' : (64 : Int) < l.length := by omega
              have hmc' := Lib.hid (show mcheck m l = 2 by rw [hmc.out]; simp [h64])
              go_wp2_with (first | (go_at_call 43; refine (cB.out _ hb2).mono ?_; rintro e w3 ⟨rfl, hb3⟩; have hreq3 := cell_keep hb3 hreq2) | (go_at_call 43; refine cA.mono ?_; rintro e w2 ⟨rfl, hb2⟩; have hreq2 := cell_keep hb2 hreq))
              go_ret
              exact ⟨by rw [hmc'.out]; rfl, (hBz.out.trans (hb2.mono (by omega))).trans (hb3.mono (by have := hb2.size; omega))⟩
            · have h64' : ¬ (64 : Int) < l.length := by omega
              have hmc' := Lib.hid (show mcheck m l = 0 by rw [hmc.out]; simp [h64])
              go_wp2_with (first | (go_at_call 43; refine (cB.out _ hb2).mono ?_; rintro e w3 ⟨rfl, hb3⟩; have hreq3 := cell_keep hb3 hreq2) | (go_at_call 43; refine cA.mono ?_; rintro e w2 ⟨rfl, hb2⟩; have hreq2 := cell_keep hb2 hreq))
              go_ret
              exact ⟨by rw [hmc'.out]; rfl, (hBz.out.trans (hb2.mono (by omega))).trans (hb3.mono (by have := hb2.size; omega))⟩
          · have hmc' := Lib.hid (show mcheck m l = 6 by rw [hmc.out]; rfl)
            go_wp2_with (first | (go_at_call 43; refine (cB.out _ hb2).mono ?_; rintro e w3 ⟨rfl, hb3⟩) | (go_at_call 43; refine cA.mono ?_; rintro e w2 ⟨rfl, hb2⟩))
            go_ret
            exact ⟨by rw [hmc'.out]; rfl, (hBz.out.trans (hb2.mono (by omega))).trans (hb3.mono (by have := hb2.size; omega))⟩
        · have hmc' := Lib.hid (show mcheck m l = 11 by rw [hmc.out]; rfl)
          go_wp2_with (first | (go_at_call 43; refine (cB.out _ hb2).mono ?_; rintro e w3 ⟨rfl, hb3⟩) | (go_at_call 43; refine cA.mono ?_; rintro e w2 ⟨rfl, hb2⟩))
          go_ret
          exact ⟨by rw [hmc'.out]; rfl, (hBz.out.trans (hb2.mono (by omega))).trans (hb3.mono (by have := hb2.size; omega))⟩
      · have hmc' := Lib.hid (show mcheck m l = 5 by rw [hmc.out]; rfl)
        go_wp2_with (go_at_call 43; refine cA.mono ?_; rintro e w2 ⟨rfl, hb2⟩)
        go_ret
        exact ⟨by rw [hmc'.out]; rfl, hBz.out.trans (hb2.mono (by omega))⟩
end Go.Proofs.YtfiilbdkhelhgaaDoor
