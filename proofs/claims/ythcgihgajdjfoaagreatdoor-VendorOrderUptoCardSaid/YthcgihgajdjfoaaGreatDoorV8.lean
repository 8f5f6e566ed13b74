/- What the claim needs of: WK WL PG WM. -/
import Derived.Test.YthcgihgajdjfoaaGreatDoorV7
import Derived.Maps.OwnSet
import Derived.StringKeys
import Derived.Lib.QuietBelow
namespace Go.Proofs.YthcgihgajdjfoaaGreatDoor
open Go.RowKit
open Go.Maps (Keyed)
def Seen (w : World) (b n : Nat) (S : List UInt8 → Bool) : Prop :=
 ∃ D : DataW Unit, w.ownsMap Tryz.prog 9 (plainElem Tryz.prog 4) b n D ∧ ∀ s : List UInt8, D.atKey (.string s) (.lit (.bool false)) = .lit (.bool (S s))
theorem keyS (s : List UInt8) (h : s.length ≤ maxLen) : keyOf Tryz.prog 9 (.string ⟨s.toArray⟩) = some (.string s) := by
 have := WideMaps.keyOf_string_mk (P := Tryz.prog) Tryz.underlying9 (s := ⟨s.toArray⟩) (by simpa [ByteArray.size] using h)
 simpa using this
theorem Seen.made (w : World) : Seen (w.alloc (.map #[] 0)) w.heap.size 0 (fun _ => false) :=
 ⟨.map [], World.ownsMap_made _ _ _ _, fun _ => rfl⟩
theorem Seen.kept {w w' : World} {b n : Nat} {S : List UInt8 → Bool} {row : Option Nat} (h : Seen w b n S) (hg : w.grownBy w' row) (hne : some b ≠ row) : Seen w' b n S := by
 obtain ⟨D, h1, h2⟩ := h
 exact ⟨D, h1.kept hg hne, h2⟩
theorem Seen.alloc {w : World} {b n : Nat} {S : List UInt8 → Bool} (h : Seen w b n S) (o : Obj) : Seen (w.alloc o) b n S := h.kept (World.grownBy_alloc w o none) (by simp)
theorem plainElem_bool_inv {H : Type} {P : Program} {e : TypeId} (he : P.underlying e = some .bool) {v : Value} {x : Bool} {ps : List MemPlace} (h : plainElem (H := H) P e v = some (.lit (.bool x), ps)) : v = .bool x := by
 unfold plainElem at h
 rw [he] at h
 cases v <;> simp at h
 rw [h.1]
theorem Seen.look {w : World} {b n : Nat} {S : List UInt8 → Bool} (h : Seen w b n S) (s : List UInt8) (hs : s.length ≤ maxLen) :
  (Instr.lookup 145 (.map (some b)) (.string ⟨s.toArray⟩) false).run Tryz.prog w = .ok (.bool (S s)) w := by
 obtain ⟨D, h1, h2⟩ := h
 obtain ⟨v, ps, hrun, hv⟩ := h1.lookup (Maps.string_keyed Tryz.underlying9) Tryz.underlying145 (Tryz.zeroValue4 w) (plainElem_bool Tryz.underlying4 false) (keyS s hs)
 rw [h2] at hv
 rw [hrun, plainElem_bool_inv Tryz.underlying4 hv]
theorem Seen.put {w : World} {b n : Nat} {S : List UInt8 → Bool} (h : Seen w b n S) (hn : n < maxLen) (s : List UInt8) (hs : s.length ≤ maxLen) :
  ∃ w', (Instr.mapUpdate 145 (.map (some b)) (.string ⟨s.toArray⟩) (.bool true)).run Tryz.prog w = .ok () w' ∧ Seen w' b (n + 1) (fun t => S t || decide (t = s)) ∧ w.grownBy w' (some b) := by
 obtain ⟨D, h1, h2⟩ := h
 obtain ⟨w', hrun, h3, h4⟩ := h1.update (Maps.string_keyed Tryz.underlying9) Tryz.underlying145 hn (keyS s hs) (plainElem_bool Tryz.underlying4 true)
 refine ⟨w', hrun, ⟨_, h3, fun t => ?_⟩, h4⟩
 by_cases ht : t = s
 ·subst ht
  rw [Maps.atKey_put_same h1.isMap (by exact True.intro)]
  simp
 ·rw [Maps.atKey_put_other (by intro e; exact ht (by injection e))]
  rw [h2]
  simp [ht]
def clampM (m : Mod) : Mod := if m.1.length ≤ maxLen then m else default
theorem clampM_id (m : Mod) (h : m.1.length ≤ maxLen) : clampM m = m := by simp [clampM, h]
theorem clampM_ok (m : Mod) : (clampM m).1.length ≤ maxLen := by
 unfold clampM
 split
 ·assumption
 ·exact Nat.zero_le _
theorem clampM_any (p : Mod → Bool) : ∀ l : List Mod, (∀ x ∈ l, x.1.length ≤ maxLen) → l.any (fun x => p (clampM x)) = l.any p
 | [], _ => rfl
 | x :: l, h => by
   simp only [List.any_cons]
   rw [clampM_id x (h x (by simp)), clampM_any p l (fun y hy => h y (by simp [hy]))]
theorem contains_any (p : Mod → Bool) (g : Nat) (eg : ∀ args w, (callFunc g args).run Tryz.prog w = .ok (.enter g args) w) (A : Option Addr) (c : Nat) (l : List Mod) (w : World) (hA : Sl w w.heap.size 4 encM A l) (hne : l ≠ []) (hl : l.length ≤ 4611686018427387904)
  (hs : ∀ x ∈ l, x.1.length ≤ maxLen)
  (hp : ∀ W x, x.1.length ≤ maxLen → Below w.heap.size w W → Calls Tryz.prog g #[.agg (encM x).toArray] W fun e w' => e = .returned (.bool (p x)) ∧ Below W.heap.size W w') :
  Calls Tryz.prog 109 #[.slice A l.length c, .func (.func g) #[] #[]] w fun e w' => e = .returned (.bool (l.any p)) ∧ Below w.heap.size w w' := by
 rcases hA with rfl | ⟨b, off, rfl, hb, hc⟩
 ·exact absurd rfl hne
 ·have hcon := AnyQ.slices_IndexFunc Tryz.idxM 4 Tryz.isAgg26 Tryz.sizeOf26 (fun x => encM (clampM x)) (fun x => encM_len _) (fun x => p (clampM x)) g #[] eg b off l.length c l w
   (fun W x hW => (hp W (clampM x) (clampM_ok x) hW).mono fun e w' ⟨h1, h2⟩ => ⟨h1, hW.trans (h2.mono hW.size)⟩) (Nat.le_refl _) (by omega) hb (fun j hj i v hi => by
   have : l[j]! = l[j] := by simp [hj]
   rw [this, clampM_id _ (hs _ (List.getElem_mem hj))] at hi
   exact hc j hj i v hi)
  rw [List.take_length] at hcon
  have hres := Lib.hid ((Lib.idxBy_nonneg_iff (fun _ y => p (clampM y)) l default).trans (clampM_any p l hs))
  change Calls Tryz.prog 141 _ _ _ at hcon
  clear hc hp
  generalize Lib.idxBy (fun _ y => p (clampM y)) l default = r at hcon hres
  go_enter Tryz.func109, Tryz.ntmps109
  go_wp2_with (go_at_call 141; refine hcon.mono ?_; rintro e w1 ⟨rfl, hb⟩)
  go_ret
  exact ⟨by rw [← hres.out]; rfl, hb⟩
set_option maxRecDepth 100000 in
set_option maxHeartbeats 4000000 in
theorem Check_any (m : Mod) (A : Option Addr) (c : Nat) (l : List Mod) (w : World) (hA : Sl w w.heap.size 4 encM A l) (hl : l.length ≤ 1099511627776) (hs : ∀ x ∈ m :: l, x.1.length ≤ maxLen) (hG : Glob w) :
  Calls Tryz.prog 67 #[.agg #[.string ⟨m.1.toArray⟩, .int .i64 m.2.1, .int .i64 m.2.2.1, .int .i64 m.2.2.2, .slice A l.length c]] w fun e w' => e = .returned (.int .i64 (mcheck m l)) ∧ Below w.heap.size w w' := by
 have cmod := Lib.hid (modules_any m A c l (w.alloc (.cells #[.string ⟨m.1.toArray⟩, .int .i64 m.2.1, .int .i64 m.2.2.1, .int .i64 m.2.2.2, .slice A l.length c] 29)) ((hA.below ((Below.refl _ _).alloc (Nat.le_refl _) _)).more (by simp)) hl)
 have HG := Lib.hid hG
 clear hG hA
 go_enter Tryz.func67, Tryz.ntmps67
 go_wp2_with (go_at_call 108; refine cmod.out.mono ?_; rintro e w1 ⟨A1, c1, rfl, hc1, hS1, hb1⟩)
 have kreq := cell_keep (p := ⟨w.heap.size, 4, none⟩) (v := .slice A l.length c) hb1 (by simp)
 have hB1 : Below w.heap.size w w1 := ((Below.refl _ _).alloc (Nat.le_refl _) _).trans (hb1.mono (by simp))
 have HG1 := Lib.hid (HG.out.keep hB1)
 clear HG cmod hb1
 have hLl : (m :: l).length = l.length + 1 := rfl
 have hmc := Lib.hid (mcheck.eq_1 m l)
 generalize hL : m :: l = L at hS1 hs hLl hc1 hmc ⊢
 clear hL
 rw [hLl] at hc1
 have hBl := lt_of_cell kreq
 have hsz1 := hB1.size
 have hm0 := Seen.made w1
 have hmm := @run_makeMap Tryz.prog
 go_wp2
 go_loopw [5, 13] (fun tw i wr => ∃ k, k ≤ L.length ∧ i = .int .i64 (k : Nat) ∧ tw = .bool (dupK L k) ∧ Seen wr w1.heap.size k (fun s => (L.take k).any fun y => decide (y.1 = s)) ∧ Below w1.heap.size w1 wr)
  (fun _ i _ => L.length - (intOf i).toNat)
 case atStart => exact ⟨0, Nat.zero_le _, rfl, rfl, hm0, (Below.refl _ _).alloc (Nat.le_refl _) _⟩
 case round =>
  obtain ⟨k, hk, rfl, rfl, hm, hb⟩ := hrel
  have hbz := hb.size
  by_cases hlt : k < L.length
  ·have hlt' : (k : Int) < (l.length : Int) + 1 := by omega
   obtain ⟨b, off, rfl, hbB, g0, g1, g2, g3⟩ := (hS1.below hb).mod hlt
   have hg : L.getD k default = L[k] := by simp [hlt]
   have HD := Lib.hid (dupK_succ L k)
   have HT := Lib.hid (fun s => any_take_succ (fun y : Mod => decide (y.1 = s)) L k hlt)
   have hxs := hs L[k] (List.getElem_mem hlt)
   unfold dupAt at HD
   rw [hg] at HD
   clear hg
   generalize L[k] = x at g0 g1 g2 g3 HD HT hxs
   obtain ⟨s, x1, x2, x3⟩ := x
   simp only at g0 g1 g2 g3 HD HT hxs
   have hlook := (hm.alloc (.cells #[.string ⟨s.toArray⟩, .int .i64 x1, .int .i64 x2, .int .i64 x3] 26)).look s hxs
   obtain ⟨w2, hput, hm2, hg2⟩ := (hm.alloc (.cells #[.string ⟨s.toArray⟩, .int .i64 x1, .int .i64 x2, .int .i64 x3] 26)).put (by simp only [maxLen]; omega) s hxs
   have hcon := fun t => (HT.out t).symm
   generalize hq : ((L.take k).any fun y => decide (y.1 = s)) = q at hlook HD
   clear hq hcon
   cases hd : dupK L k
   ·rw [hd] at HD
    go_wp2
    go_roundw
    case rel =>
     refine ⟨k + 1, by omega, by go_num, by rw [HD.out]; rfl, ?_, (hb.alloc hbz _).grown hg2 (by simp; omega) (by simp)⟩
     have e : (fun t => (List.take (k + 1) L).any fun y => decide (y.1 = t)) = fun t => ((List.take k L).any fun y => decide (y.1 = t)) || decide (t = s) := by
      funext t
      rw [HT.out t]
      congr 1
      exact decide_eq_decide.2 eq_comm
     rw [e]
     exact hm2
    case measure => simp [intOf]; omega
   ·rw [hd] at HD
    go_wp2
    go_roundw
    case rel =>
     refine ⟨k + 1, by omega, by go_num, by rw [HD.out]; rfl, ?_, (hb.alloc hbz _).grown hg2 (by simp; omega) (by simp)⟩
     have e : (fun t => (List.take (k + 1) L).any fun y => decide (y.1 = t)) = fun t => ((List.take k L).any fun y => decide (y.1 = t)) || decide (t = s) := by
      funext t
      rw [HT.out t]
      congr 1
      exact decide_eq_decide.2 eq_comm
     rw [e]
     exact hm2
    case measure => simp [intOf]; omega
  ·obtain rfl : k = l.length + 1 := by omega
   have hne : L ≠ [] := by intro e; rw [e] at hLl; simp at hLl
   have hGr := HG1.out.keep hb
   have cA := contains_any badPath 110 (enters_of Tryz.func110 (by kernel_rfl) rfl) A1 c1 L wr ((hS1.below hb).more hbz) hne (by omega) hs (fun W x hx hW => bad1_any x W hx (hGr.keep hW))
   have cB := Lib.hid (fun (W : World) (hW : Below wr.heap.size wr W) => contains_any badVer 111 (enters_of Tryz.func111 (by kernel_rfl) rfl) A1 c1 L W (((hS1.below hb).more hbz).below hW |>.more hW.size) hne (by omega) hs (fun W' x hx hW' => bad2_any x W'))
   rw [hLl] at cA cB
   have hreq := below_cell (hb.mono (Nat.le_refl _)) kreq hBl
   have hBz := Lib.hid (hB1.trans (hb.mono hsz1))
   clear hm0 hm
   generalize L.any badPath = qa at cA hmc
   generalize L.any badVer = qb at cB hmc
   generalize dupK L (l.length + 1) = qc at hmc ⊢
   cases qa
   ·cases qb
    ·cases qc
     ·by_cases h64 : 64 < l.length
      ·have h64' : (64 : Int) < l.length := by omega
       have hmc' := Lib.hid (show mcheck m l = 2 by rw [hmc.out]; simp [h64])
       go_wp2_with (first | (go_at_call 109; refine (cB.out _ hb2).mono ?_; rintro e w3 ⟨rfl, hb3⟩; have hreq3 := cell_keep hb3 hreq2) | (go_at_call 109; refine cA.mono ?_; rintro e w2 ⟨rfl, hb2⟩; have hreq2 := cell_keep hb2 hreq))
       go_ret
       exact ⟨by rw [hmc'.out]; rfl, (hBz.out.trans (hb2.mono (by omega))).trans (hb3.mono (by have := hb2.size; omega))⟩
      ·have h64' : ¬ (64 : Int) < l.length := by omega
       have hmc' := Lib.hid (show mcheck m l = 0 by rw [hmc.out]; simp [h64])
       go_wp2_with (first | (go_at_call 109; refine (cB.out _ hb2).mono ?_; rintro e w3 ⟨rfl, hb3⟩; have hreq3 := cell_keep hb3 hreq2) | (go_at_call 109; refine cA.mono ?_; rintro e w2 ⟨rfl, hb2⟩; have hreq2 := cell_keep hb2 hreq))
       go_ret
       exact ⟨by rw [hmc'.out]; rfl, (hBz.out.trans (hb2.mono (by omega))).trans (hb3.mono (by have := hb2.size; omega))⟩
     ·have hmc' := Lib.hid (show mcheck m l = 6 by rw [hmc.out]; rfl)
      go_wp2_with (first | (go_at_call 109; refine (cB.out _ hb2).mono ?_; rintro e w3 ⟨rfl, hb3⟩) | (go_at_call 109; refine cA.mono ?_; rintro e w2 ⟨rfl, hb2⟩))
      go_ret
      exact ⟨by rw [hmc'.out]; rfl, (hBz.out.trans (hb2.mono (by omega))).trans (hb3.mono (by have := hb2.size; omega))⟩
    ·have hmc' := Lib.hid (show mcheck m l = 11 by rw [hmc.out]; rfl)
     go_wp2_with (first | (go_at_call 109; refine (cB.out _ hb2).mono ?_; rintro e w3 ⟨rfl, hb3⟩) | (go_at_call 109; refine cA.mono ?_; rintro e w2 ⟨rfl, hb2⟩))
     go_ret
     exact ⟨by rw [hmc'.out]; rfl, (hBz.out.trans (hb2.mono (by omega))).trans (hb3.mono (by have := hb2.size; omega))⟩
   ·have hmc' := Lib.hid (show mcheck m l = 5 by rw [hmc.out]; rfl)
    go_wp2_with (go_at_call 109; refine cA.mono ?_; rintro e w2 ⟨rfl, hb2⟩)
    go_ret
    exact ⟨by rw [hmc'.out]; rfl, hBz.out.trans (hb2.mono (by omega))⟩
end Go.Proofs.YthcgihgajdjfoaaGreatDoor
namespace Go.Proofs.YthcgihgajdjfoaaGreatDoor
open Go.RowKit Go.Sort
theorem grow_of_belowD {w w' : World} (h : BelowD w.heap.size w w') : ∃ q os', w' = grow (w.drewN q) os' := by
 obtain ⟨p, rfl⟩ := regrown_of_below h.toBelow
 have hd : w.drawn ≤ p.d := h.drawn
 refine ⟨p.d - w.drawn, p.os, ?_⟩
 have e : redrawn w p.d = w.drewN (p.d - w.drawn) := by
  unfold redrawn World.drewN
  congr 1
  omega
 rw [e]
section
variable {α : Type} [Inhabited α] {enc : α → List Value} {k : Nat}
theorem getBang_of {β : Type} [Inhabited β] {l : List β} {i : Nat} {v : β} (h : l[i]? = some v) : l[i]! = v := by simp [h]
theorem holdsK_of_owns (hk : ∀ x, (enc x).length = k) {w : World} {base : Nat} {e : TypeId} {v : Value} {l : List α} (h : w.ownsRow base e k v l.length (l.flatMap enc)) (hv : v ≠ .slice none 0 0) :
  ∃ g cap, v = .slice (some ⟨g, 0, none⟩) l.length cap ∧ base ≤ g ∧ g < w.heap.size ∧ HoldsK enc k w g 0 l.toArray := by
 have hw := h
 rcases h.2 with ⟨rfl, _⟩ | ⟨g, cap, cur, rfl, hbase, hh, _⟩
 ·exact absurd rfl hv
 ·have hlt : g < w.heap.size := by
   rcases Nat.lt_or_ge g w.heap.size with hlt | hge
   ·exact hlt
   ·rw [Array.getElem?_eq_none hge] at hh; cases hh
  refine ⟨g, cap, rfl, hbase, hlt, fun j hj => ?_⟩
  simp only [size_flatK, List.size_toArray] at hj
  refine ⟨?_, by simp [World.frozen?, hh]⟩
  obtain ⟨h1, h2, h3⟩ := flat_split hj
  rw [Nat.zero_add, hw.cellAt j hj, get_flatK _ _ _ _ (by simpa using hj)]
  have hi : j % k < (enc l[j / k]).length := by rw [hk]; exact h2
  have e1 : (l.flatMap enc)[j]? = (enc l[j / k])[j % k]? := by
   have := flat_at hk l _ h1 _ h2
   rwa [← h3] at this
  rw [e1]
  simp [h1, hi]
theorem sl_of_holdsK (hk : ∀ x, (enc x).length = k) {w : World} {blk off : Nat} {l : List α} (h : HoldsK enc k w blk off l.toArray) (hb : blk < w.heap.size) : Sl w w.heap.size k enc (some ⟨blk, off, none⟩) l := by
 refine .inr ⟨blk, off, rfl, hb, fun i hi j v hv => ?_⟩
 have hj : j < k := by rw [← hk l[i]]; exact (List.getElem?_eq_some_iff.1 hv).1
 have := (h.cell (i := i) (c := j) (by simpa using hi) hj).1
 rw [this]
 congr 1
 have e : (l.toArray)[i]! = l[i] := by simp [hi]
 rw [e]
 exact getBang_of hv
theorem below_sortWorldK {w : World} {base blk off m : Nat} {dk : Array α} {os : Array Obj} (h1 : base ≤ blk) (h2 : blk < w.heap.size) : Below base w (sortWorldK enc k w blk off m dk os) := by
 refine ⟨rfl, rfl, rfl, size_sortWorldK_c enc k w blk off m dk os, fun i hi => ?_⟩
 unfold sortWorldK
 rw [heap_grow_old _ _ (by rw [size_putRowK]; show i < w.heap.size; omega)]
 unfold putRowK putRow mapBlock
 simp only [Array.getElem?_modify]
 rw [if_neg (by omega)]
 rfl
end
theorem vcmp_flip (x y z x' y' z' : Int) : vcmp x y z x' y' z' < 0 ↔ 0 < vcmp x' y' z' x y z := by
 unfold vcmp; repeat' split
 all_goals omega
theorem mlt_iff (m n : Mod) : ltOf mcmp m n = true ↔ Op.bytesLess m.1 n.1 = true ∨ (m.1 = n.1 ∧ vcmp m.2.1 m.2.2.1 m.2.2.2 n.2.1 n.2.2.1 n.2.2.2 < 0) := by
 unfold ltOf
 rw [decide_eq_true_iff]
 unfold mcmp
 by_cases h1 : Op.bytesLess m.1 n.1 = true
 ·simp [h1]
 ·by_cases h2 : m.1 = n.1
  ·simp [h2, bl_irrefl]
  ·simp [h1, h2]
theorem mlt_total (m n : Mod) (h1 : ltOf mcmp m n = false) (h2 : ltOf mcmp n m = false) : m = n := by
 have a : ¬ ltOf mcmp m n = true := by simp [h1]
 have b : ¬ ltOf mcmp n m = true := by simp [h2]
 rw [mlt_iff] at a b
 have e : m.1 = n.1 := bl_total _ _ (by simpa using fun h => a (.inl h)) (by simpa using fun h => b (.inl h))
 have a' : ¬ vcmp m.2.1 m.2.2.1 m.2.2.2 n.2.1 n.2.2.1 n.2.2.2 < 0 := fun h => a (.inr ⟨e, h⟩)
 have b' : ¬ vcmp n.2.1 n.2.2.1 n.2.2.2 m.2.1 m.2.2.1 m.2.2.2 < 0 := fun h => b (.inr ⟨e.symm, h⟩)
 rw [vcmp_flip] at b'
 refine (mcmp_eq m n).1 ?_
 unfold mcmp
 rw [e, bl_irrefl]
 simp
 omega
theorem mlt_trans (x y z : Mod) (h1 : ltOf mcmp x y = true) (h2 : ltOf mcmp y z = true) : ltOf mcmp x z = true := by
 rw [mlt_iff] at *
 rcases h1 with h1 | ⟨e1, h1⟩
 ·rcases h2 with h2 | ⟨e2, h2⟩
  ·exact .inl (bl_trans _ _ _ h1 h2)
  ·exact .inl (e2 ▸ h1)
 ·rcases h2 with h2 | ⟨e2, h2⟩
  ·exact .inl (e1 ▸ h2)
  ·refine .inr ⟨e1.trans e2, ?_⟩
   rw [vcmp_neg] at *
   omega
theorem mlt_irrefl (x : Mod) : ltOf mcmp x x = false := by simp [ltOf, mcmp_refl]
theorem swo_of {β : Type} {lt : β → β → Bool} (h1 : ∀ x, lt x x = false) (h2 : ∀ x y z, lt x y = true → lt y z = true → lt x z = true) (h3 : ∀ x y, lt x y = false → lt y x = false → x = y) : SWO lt where
 irrefl := h1
 trans := h2
 ntrans x y z a b := by
  cases hyx : lt y x
  ·rw [h3 x y a hyx]; exact b
  ·cases hxz : lt x z
   ·rfl
   ·have := h2 y x z hyx hxz
    rw [b] at this; cases this
theorem mlt_swo : SWO (ltOf mcmp) := swo_of mlt_irrefl mlt_trans mlt_total
def msort (l : List Mod) : List Mod := l.mergeSort fun x y => !(ltOf mcmp) y x
theorem msort_len (l : List Mod) : (msort l).length = l.length := List.length_mergeSort l
theorem encM_one1 (x : Mod) : ∀ v ∈ encM x, v.oneCell' = true := fun v hv => by
 simp [encM] at hv
 rcases hv with rfl | rfl | rfl | rfl <;> rfl
theorem sortM_any (v : Value) (l : List Mod) (w : World) (base : Nat) (h : w.ownsRow base 26 4 v l.length (l.flatMap encM)) (hv : v ≠ .slice none 0 0) (hl : l.length ≤ 1099511627776) :
  Calls Tryz.prog 137 #[v, .func (.func 41) #[] #[]] w fun e w' => e = .returned (.tuple #[]) ∧ (∃ A c, v = .slice A l.length c ∧ l.length ≤ c ∧ Sl w' w'.heap.size 4 encM A (msort l)) ∧ Below base w w' := by
 have hcap : ∀ A n c, v = .slice A n c → l.length ≤ c := by
  rcases h.2 with ⟨rfl, _⟩ | ⟨g, cap, cur, rfl, _, _, hc, _⟩
  ·exact absurd rfl hv
  ·intro A n c e
   injection e with _ _ e3
   omega
 obtain ⟨g, cap, rfl, hbase, hlt, hH⟩ := holdsK_of_owns encM_len h hv
 refine (AnyQ.slices_SortFunc_total Tryz.sortM 4 Tryz.isAgg26 Tryz.sizeOf26 encM encM_len encM_one1 mcmp mlt_swo 41 #[] g 0 cap l.toArray w (enters_of Tryz.func41 (by kernel_rfl) rfl)
  (fun m os dk _ x y => (mCompare_any x.1 y.1 x.2.1 x.2.2.1 x.2.2.2 y.2.1 y.2.2.1 y.2.2.2 _).mono fun e w' ⟨h1, h2⟩ => ⟨h1, grow_of_belowD h2⟩) hH hlt (by simp; omega) mlt_total).mono ?_
 rintro e w' ⟨rfl, n, os, rfl⟩
 refine ⟨rfl, ⟨_, _, rfl, hcap _ _ _ rfl, ?_⟩, below_sortWorldK hbase hlt⟩
 refine sl_of_holdsK encM_len (holdsK_sortWorldK_c encM 4 w g 0 l.toArray _ n os hH hlt (by simp)) ?_
 exact Nat.lt_of_lt_of_le hlt (size_sortWorldK_c encM 4 w g 0 n _ os)
end Go.Proofs.YthcgihgajdjfoaaGreatDoor
namespace Go.Proofs.YthcgihgajdjfoaaGreatDoor
open Go.RowKit Go.Sort
section
variable {α : Type} {lt : α → α → Bool}
def leOf (lt : α → α → Bool) (a b : α) : Prop := lt b a = false
theorem le_of_lt (hO : SWO lt) {a b : α} (h : lt a b = true) : leOf lt a b := by
 unfold leOf
 cases hb : lt b a
 ·rfl
 ·have := hO.trans a b a h hb
  rw [hO.irrefl] at this; cases this
theorem le_trans_of (hO : SWO lt) {a b c : α} (h1 : leOf lt a b) (h2 : leOf lt b c) : leOf lt a c := hO.ntrans c b a h2 h1
theorem ins_sorted (hO : SWO lt) (P : List α) (x : α) (k : Nat) (hkl : k ≤ P.length) (hs : P.Pairwise (leOf lt)) (h1 : ∀ i, i + 1 = k → ∀ h : i < P.length, lt x P[i] = false) (h2 : ∀ i, k ≤ i → ∀ h : i < P.length, lt x P[i] = true) :
  (P.take k ++ x :: P.drop k).Pairwise (leOf lt) := by
 have hsplit : (P.take k ++ P.drop k).Pairwise (leOf lt) := by rw [List.take_append_drop]; exact hs
 rw [List.pairwise_append] at hsplit ⊢
 obtain ⟨ha, hb, hc⟩ := hsplit
 have hx : ∀ a ∈ P.take k, leOf lt a x := by
  intro a hm
  obtain ⟨i, hi, rfl⟩ := List.mem_take_iff_getElem.1 hm
  have hk : k - 1 < P.length ∨ P.length ≤ k - 1 := by omega
  rcases hk with hk | hk
  ·have hlast : leOf lt P[k - 1] x := h1 (k - 1) (by omega) hk
   rcases (show i = k - 1 ∨ i < k - 1 by omega) with rfl | hlt
   ·exact hlast
   ·exact le_trans_of hO (List.pairwise_iff_getElem.1 hs i (k - 1) (by omega) hk hlt) hlast
  ·exfalso; omega
 refine ⟨ha, ?_, ?_⟩
 ·rw [List.pairwise_cons]
  refine ⟨fun y hy => ?_, hb⟩
  obtain ⟨i, hi, rfl⟩ := List.getElem_of_mem hy
  rw [List.getElem_drop]
  exact le_of_lt hO (h2 (k + i) (by omega) (by simp at hi; omega))
 ·intro a hm b hb'
  rcases List.mem_cons.1 hb' with rfl | hb'
  ·exact hx a hm
  ·exact hc a hm b hb'
theorem ins_perm (P Q : List α) (x : α) (k : Nat) (h : P.Perm Q) : (P.take k ++ x :: P.drop k).Perm (Q ++ [x]) := by
 have h1 : (P.take k ++ x :: P.drop k).Perm (x :: (P.take k ++ P.drop k)) := List.perm_middle
 rw [List.take_append_drop] at h1
 exact h1.trans ((List.Perm.cons x h).trans (List.perm_append_singleton x Q).symm)
theorem sorted_eq (hO : SWO lt) (hT : ∀ x y, lt x y = false → lt y x = false → x = y) (P l : List α) (hs : P.Pairwise (leOf lt)) (hp : P.Perm l) : P = l.mergeSort fun x y => !lt y x := by
 have htr : ∀ a b c : α, (!lt b a) = true → (!lt c b) = true → (!lt c a) = true := fun a b c h1 h2 => by
  simp at *; exact hO.ntrans c b a h2 h1
 have hto : ∀ a b : α, ((!lt b a) || (!lt a b)) = true := fun a b => by
  cases hab : lt a b
  ·simp
  ·have := le_of_lt hO hab
   unfold leOf at this
   simp [this]
 have h2 := List.pairwise_mergeSort htr hto l
 refine List.Perm.eq_of_pairwise (le := leOf lt) (fun a b _ _ h1 h2 => (hT a b h2 h1)) hs (h2.imp (fun h => by simpa [leOf] using h)) (hp.trans (List.mergeSort_perm l _).symm)
end
end Go.Proofs.YthcgihgajdjfoaaGreatDoor
namespace Go.Proofs.YthcgihgajdjfoaaGreatDoor
open Go.RowKit Go.Sort
def NewRow (w : World) (base : Nat) (v : Value) (l : List Mod) : Prop :=
 (l = [] ∧ ∃ A c, v = .slice A 0 c) ∨ (v ≠ .slice none 0 0 ∧ w.ownsRow base 26 4 v l.length (l.flatMap encM))
theorem NewRow.slice {w : World} {base : Nat} {v : Value} {l : List Mod} (h : NewRow w base v l) : ∃ A c, v = .slice A l.length c := by
 rcases h with ⟨rfl, A, c, rfl⟩ | ⟨_, h⟩
 ·exact ⟨A, c, rfl⟩
 ·exact Acc.shape (.inl h)
set_option maxRecDepth 100000 in
set_option maxHeartbeats 1000000 in
theorem cloneM_any (A : Option Addr) (c : Nat) (l : List Mod) (w : World) (hA : Sl w w.heap.size 4 encM A l) (hl : l.length ≤ 1099511627776) :
  Calls Tryz.prog 71 #[.slice A l.length c] w fun e w' => ∃ v, e = .returned v ∧ NewRow w' w.heap.size v l ∧ Below w.heap.size w w' := by
 rcases hA with rfl | ⟨b, off, rfl, hb, hc⟩
 ·rcases A with _ | ad
  ·refine (AnyE.slices_Clone_nil Tryz.cloneM 0 c w).mono ?_
   rintro e w' ⟨rfl, rfl⟩
   exact ⟨_, rfl, .inl ⟨rfl, _, _, rfl⟩, Below.refl _ _⟩
  ·have q := fun (w : World) => Lib.run_eql_slice_nil w _ _ (some ad) 0 c 0 0 Tryz.underlying27
   have hac := Acc.marked w #[] w.heap.size 26 4 0 (0, 0) rfl
   show Calls Tryz.prog 71 #[.slice (some ad) 0 c] w _
   go_enter Tryz.func71, Tryz.ntmps71
   go_wp2_with (at_builtin; refine wpList_app _ rfl (.tmp 5) (.tmp 6) 27 rfl w.heap.size 26 4 40 elMod (.slice (some ⟨w.heap.size, 0, none⟩) 0 0) 0 _ rfl hac (some ad) 0 c [] rfl ⟨rfl, fun h => absurd h (by decide)⟩ (by simp) (by simp [maxLen]) (by omega) (by simp) ?_; intro v' w1 hacc' _ hb' _ _)
   go_ret
   obtain ⟨A', c', rfl⟩ := hacc'.shape
   exact ⟨_, rfl, .inl ⟨rfl, _, _, rfl⟩, ((Below.refl _ _).alloc (Nat.le_refl _) _).trans hb'⟩
 ·obtain ⟨_, h0, i, z, e1, e2, e3, e4, e5⟩ := elMod
  have hsr := (Sl.src (.inr ⟨b, off, rfl, hb, hc⟩ : Sl w w.heap.size 4 encM (some ⟨b, off, none⟩) l) encM_len)
  rcases Nat.eq_zero_or_pos l.length with h0' | hpos
  ·obtain rfl : l = [] := List.eq_nil_of_length_eq_zero h0'
   refine (AnyE.slices_Clone Tryz.cloneM i z 4 40 e1 e2 e3 e4 e5 h0 Tryz.sizeOf26 b off 0 c [] w rfl (by simp [maxLen]) (by omega) (by simp) (by simp)).mono ?_
   rintro e w' ⟨v, rfl, h1, h2, h3⟩
   exact ⟨v, rfl, .inr ⟨h2, h1⟩, h3⟩
  ·refine (AnyE.slices_Clone Tryz.cloneM i z 4 40 e1 e2 e3 e4 e5 h0 Tryz.sizeOf26 b off l.length c (l.flatMap encM) w (flat_len encM_len l) (by simp only [maxLen]; omega) (by omega) (fun j u hu => ?_) (encM_one l)).mono ?_
   ·obtain ⟨ad, had, hcs⟩ := hsr.2 hpos
    injection had with had
    subst had
    have := hcs j u hu
    rwa [Addr.add_lit] at this
   ·rintro e w' ⟨v, rfl, h1, h2, h3⟩
    exact ⟨v, rfl, .inr ⟨h2, h1⟩, h3⟩
theorem sortMs_any (v : Value) (l : List Mod) (w : World) (base : Nat) (h : NewRow w base v l) (hl : l.length ≤ 1099511627776) :
  Calls Tryz.prog 137 #[v, .func (.func 41) #[] #[]] w fun e w' => e = .returned (.tuple #[]) ∧ (∃ A c, v = .slice A l.length c ∧ Sl w' w'.heap.size 4 encM A (msort l)) ∧ Below base w w' := by
 rcases h with ⟨rfl, A, c, rfl⟩ | ⟨hv, h⟩
 ·refine (AnyF.slices_SortFunc_none Tryz.sortM A c _ w).mono ?_
  rintro e w' ⟨rfl, rfl⟩
  exact ⟨rfl, ⟨A, c, rfl, .inl (by simp [msort])⟩, Below.refl _ _⟩
 ·refine (sortM_any v l w base h hv hl).mono ?_
  rintro e w' ⟨rfl, ⟨A, c, rfl, _, h1⟩, h2⟩
  exact ⟨rfl, ⟨A, c, rfl, h1⟩, h2⟩
theorem Sl.setCell {α : Type} {w : World} {B k : Nat} {enc : α → List Value} {A : Option Addr} {l : List α} (h : Sl w B k enc A l) (p : Addr) (u : Value) (hne : l = [] ∨ ∀ a, A = some a → a.block ≠ p.block) : Sl (w.setCell p u) B k enc A l := by
 rcases hne with rfl | hne
 ·exact .inl rfl
 ·rcases h with h | ⟨b, off, e, hb, hc⟩
  ·exact .inl h
  ·exact .inr ⟨b, off, e, hb, fun i hi j v hv => (World.cell?_of_block (w := w) (Below.heap_setCell w p u b (hne _ e))).trans (hc i hi j v hv)⟩
theorem blk_keep2 {w0 w1 w2 : World} {B g : Nat} {t : TypeId} {cs : Array Value} (h : Blk w0 g t cs) (h1 : Below B w0 w1) (h2 : Below B w1 w2) (hg : g < B) : Blk w2 g t cs := ((h2.block g hg).trans (h1.block g hg)).trans h
set_option maxRecDepth 100000 in
set_option maxHeartbeats 2000000 in
theorem sorted_far (m : Mod) (A : Option Addr) (c : Nat) (l : List Mod) (w : World) (hA : Sl w w.heap.size 4 encM A l) (hl : l.length ≤ 1099511627776) :
  Calls Tryz.prog 104 #[.agg #[.string ⟨m.1.toArray⟩, .int .i64 m.2.1, .int .i64 m.2.2.1, .int .i64 m.2.2.2, .slice A l.length c]] w fun e w' =>
   ∃ A' c', e = .returned (.agg #[.string ⟨m.1.toArray⟩, .int .i64 m.2.1, .int .i64 m.2.2.1, .int .i64 m.2.2.2, .slice A' l.length c']) ∧ Sl w' w'.heap.size 4 encM A' (msort l) ∧ Below w.heap.size w w' ∧ (l = [] ∨ ∀ a, A' = some a → w.heap.size ≤ a.block) := by
 have cc := Lib.hid (fun (W : World) (hW : Below w.heap.size w W) => cloneM_any A c l W ((hA.below hW).more hW.size) hl)
 clear hA
 go_enter Tryz.func104, Tryz.ntmps104
 have hblk0 := Lib.hid ((Blk.new w 29 #[.string ⟨m.1.toArray⟩, .int .i64 m.2.1, .int .i64 m.2.2.1, .int .i64 m.2.2.2, .slice A l.length c]).keep ((Below.refl _ _).alloc (Nat.le_refl _) (.cells #[.string ByteArray.empty, .int .i64 0, .int .i64 0, .int .i64 0, .slice none 0 0] 29)))
 have hblk1 := Lib.hid (Blk.new (w.alloc (.cells #[.string ⟨m.1.toArray⟩, .int .i64 m.2.1, .int .i64 m.2.2.1, .int .i64 m.2.2.2, .slice A l.length c] 29)) 29 #[.string ByteArray.empty, .int .i64 0, .int .i64 0, .int .i64 0, .slice none 0 0])
 go_wp2_with (first
  | (go_at_call 71; refine (cc.out _ (((Below.refl _ _).alloc (Nat.le_refl _) _).alloc (by simp) _)).mono ?_; rintro e w1 ⟨v, rfl, hn, hb1⟩; have hn' := Lib.hid hn; obtain ⟨A1, c1, rfl⟩ := hn.slice; clear hn; have hX := Lib.hid hb1; clear hb1)
  | (go_at_call 137; refine (sortMs_any _ l _ _ hn'.out hl).mono ?_; rintro e w2 ⟨rfl, ⟨A2, c2, h2, hs⟩, hb2⟩;
     have q0 := blk_keep2 hblk0.out hX.out hb2 (by simp; omega); have q1 := blk_keep2 hblk1.out hX.out hb2 (by simp);
     have hY := Lib.hid hb2; clear hb2; have hZ := Lib.hid hs; clear hs; have hE := Lib.hid h2; clear h2;
     have k0 := q0.cell 0; have k1 := q0.cell 1; have k2 := q0.cell 2; have k3 := q0.cell 3;
     have r0 := q1.cell 0; have r1 := q1.cell 1; have r2 := q1.cell 2; have r3 := q1.cell 3; have r4 := q1.cell 4;
     have f0 := q1.free 0; have f1 := q1.free 1; have f2 := q1.free 2; have f3 := q1.free 3; have f4 := q1.free 4;
     clear q0 q1; simp at k0 k1 k2 k3 r0 r1 r2 r3 r4 f0 f1 f2 f3 f4))
 have hEE := hE.out
 injection hEE with e1 e2 e3
 subst e1
 have hB : Below w.heap.size w w2 := (((Below.refl _ _).alloc (Nat.le_refl _) _).alloc (by simp) _).trans ((hX.out.mono (by simp; omega)).trans (hY.out.mono (by simp; omega)))
 have hX2 : w.heap.size + 2 ≤ w2.heap.size := by have h1 := hX.out.size; have h2 := hY.out.size; simp at h1 h2; omega
 refine bodyPost_ret (v := .agg #[.string ⟨m.1.toArray⟩, .int .i64 m.2.1, .int .i64 m.2.2.1, .int .i64 m.2.2.2, .slice A1 l.length c1]) (by simp [results, Tryz.results104, go_sem, r0, r1, r2, r3, r4]) rfl ⟨A1, c1, rfl, ?_, ?_, ?_⟩
 ·have hne : msort l = [] ∨ ∀ a, A1 = some a → a.block ≠ w.heap.size + 1 := by
   rcases hn'.out with ⟨rfl, _⟩ | ⟨_, h⟩
   ·exact .inl (by simp [msort])
   ·rcases h.2 with ⟨h, h'⟩ | ⟨g, cap, cur, h, hg, _⟩
    ·exact .inl (List.eq_nil_of_length_eq_zero (by rw [msort_len]; exact h'))
    ·refine .inr fun a ha => ?_
     injection h with h
     rw [h] at ha
     injection ha with ha
     subst ha
     simp at hg
     show g ≠ w.heap.size + 1
     omega
  have hsz : ∀ (W : World) p u, (W.setCell p u).heap.size = W.heap.size := fun W p u => by simp [World.setCell]
  simp only [hsz]
  exact ((((hZ.out.setCell _ _ hne).setCell _ _ hne).setCell _ _ hne).setCell _ _ hne).setCell _ _ hne
 ·exact ((((hB.setCell (by simp) _).setCell (by simp) _).setCell (by simp) _).setCell (by simp) _).setCell (by simp) _
 ·rcases hn'.out with ⟨rfl, _⟩ | ⟨_, h⟩
  ·exact .inl rfl
  ·rcases h.2 with ⟨_, h'⟩ | ⟨g, cap, cur, h, hg, _⟩
   ·exact .inl (List.eq_nil_of_length_eq_zero h')
   ·refine .inr fun a ha => ?_
    injection h with h
    rw [h] at ha
    injection ha with ha
    subst ha
    simp at hg
    show w.heap.size ≤ g
    omega
theorem sorted_any (m : Mod) (A : Option Addr) (c : Nat) (l : List Mod) (w : World) (hA : Sl w w.heap.size 4 encM A l) (hl : l.length ≤ 1099511627776) :
  Calls Tryz.prog 104 #[.agg #[.string ⟨m.1.toArray⟩, .int .i64 m.2.1, .int .i64 m.2.2.1, .int .i64 m.2.2.2, .slice A l.length c]] w fun e w' =>
   ∃ A' c', e = .returned (.agg #[.string ⟨m.1.toArray⟩, .int .i64 m.2.1, .int .i64 m.2.2.1, .int .i64 m.2.2.2, .slice A' l.length c']) ∧ Sl w' w'.heap.size 4 encM A' (msort l) ∧ Below w.heap.size w w' :=
 (sorted_far m A c l w hA hl).mono fun _ _ ⟨A', c', h1, h2, h3, _⟩ => ⟨A', c', h1, h2, h3⟩
end Go.Proofs.YthcgihgajdjfoaaGreatDoor
