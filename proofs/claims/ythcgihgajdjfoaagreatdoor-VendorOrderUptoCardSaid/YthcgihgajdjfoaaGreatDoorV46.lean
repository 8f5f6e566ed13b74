/- What the claim needs of: SX. -/
import Derived.Test.YthcgihgajdjfoaaGreatDoorV45
import Derived.Deep.DeepCutAuto
import Derived.Deep.CutRange
namespace Go.Proofs.YthcgihgajdjfoaaGreatDoor
open Go.RowKit Go.Sort Go.Shelf
theorem Rot.still {α : Type} [Inhabited α] {d : Array α} {s m e : Nat} (h : s = m ∨ e = m) : Rot d d s m e := ⟨rfl, fun x => by
 by_cases h1 : s ≤ x ∧ x < s + (e - m)
 ·rw [if_pos h1]; congr 1; omega
 ·rw [if_neg h1]
  by_cases h2 : s + (e - m) ≤ x ∧ x < e
  ·rw [if_pos h2]; congr 1; omega
  ·rw [if_neg h2]⟩
def In1 (d : Array Iss) (a m b i j : Nat) : Prop := (i = m ∨ ltOf icmp d[i - 1]! d[a]! = true) ∧ (j = b ∨ ltOf icmp d[j]! d[a]! = false)
def In2 (d : Array Iss) (a m i j : Nat) : Prop := (i = a ∨ ltOf icmp d[m]! d[i - 1]! = false) ∧ (j = m ∨ ltOf icmp d[m]! d[j]! = true)
def In3 (d : Array Iss) (a m b md p i j : Nat) : Prop := (i = a ∨ md + m = i + b ∨ ltOf icmp d[md + m - i]! d[i - 1]! = false) ∧ (j = m ∨ j = md ∨ ltOf icmp d[p - j]! d[j]! = true)
theorem sorted_lone {d : Array Iss} {x y z : Nat} (h1 : SortedIn (ltOf icmp) x y d) (h2 : SortedIn (ltOf icmp) y z d) (hn : ¬ (x < y ∧ y < z)) (h : x ≤ y) (h' : y ≤ z) : SortedIn (ltOf icmp) x z d := by
 by_cases q : x < y
 ·have : y = z := by omega
  subst this; exact h1
 ·have : x = y := by omega
  subst this; exact h2
set_option maxRecDepth 100000 in
set_option maxHeartbeats 16000000 in
theorem symMergeA_any (g : Nat) (eg : ∀ args w, (callFunc g args).run Tryz.prog w = .ok (.enter g args) w) (hcmp : ∀ x y W, Calls Tryz.prog g #[.agg (encI x).toArray, .agg (encI y).toArray] W fun e w' => e = .returned (.int .i64 (icmp x y)) ∧ BelowD W.heap.size W w')
  (blk off cap : Nat) (d0 : Array Iss) (w0 : World) (R : RowK encI 2 w0 blk off d0) (hsz : d0.size ≤ 1048576)
  (a m b : Nat) (d : Array Iss) (w : World) (S : SWI w0 blk off d w) (hs : d.size = d0.size) (ham : a < m) (hmb : m < b) (hb : b ≤ d0.size) (s1 : SortedIn (ltOf icmp) a m d) (s2 : SortedIn (ltOf icmp) m b d) (c1 : m ≤ a + 1) :
  Calls Tryz.prog 136 #[.slice (some ⟨blk, off, none⟩) d0.size cap, .int .i64 a, .int .i64 m, .int .i64 b, .func (.func g) #[] #[]] w fun e w' => e = .returned (.tuple #[]) ∧ ∃ d', d'.size = d0.size ∧ SortedIn (ltOf icmp) a b d' ∧ PermIn a b d d' ∧ SWI w0 blk off d' w' := by
 have HC : Hid (CmpLays Tryz.prog g #[] encI 2 icmp blk off d0.size w0) := fun m os dk _ x y => (hcmp x y _).mono fun e w' ⟨h1, h2⟩ => ⟨h1, grow_of_belowD h2⟩
 clear hcmp
 have HS0 := Lib.hid S
 have mixed := Tryz.insI.mixed
 have H1 := Lib.hid s1
 have H2 := Lib.hid s2
 clear S s1 s2
 have wma : IntKind.i64.wrap ((m : Int) - (a : Int)) = (m : Int) - (a : Int) := by rw [IntKind.wrap_i64]; omega
 have wbm : IntKind.i64.wrap ((b : Int) - (m : Int)) = (b : Int) - (m : Int) := by rw [IntKind.wrap_i64]; omega
 have c1d : decide ((m : Int) - (a : Int) = 1) = true := decide_eq_true (by omega)
 have c1b : ((m : Int) - (a : Int) == 1) = true := by rw [beq_iff_eq]; omega
 have c1e : (m : Int) - (a : Int) = 1 := by omega
 go_enter Tryz.func136, Tryz.ntmps136
 go_wp2
 go_loopw [10, 11] (fun vi vj wr => ∃ i j : Nat, vi = .int .i64 (i : Nat) ∧ vj = .int .i64 (j : Nat) ∧ m ≤ i ∧ i ≤ j ∧ j ≤ b ∧ Hid (In1 d a m b i j) ∧ Hid (SWI w0 blk off d wr)) (fun vi vj _ => (intOf vj).toNat - (intOf vi).toNat)
 case atStart => exact ⟨m, b, rfl, rfl, Nat.le_refl _, by omega, Nat.le_refl _, Lib.hid ⟨.inl rfl, .inl rfl⟩, HS0⟩
 case round =>
  obtain ⟨i, j, rfl, rfl, hmi, hij, hjb, HI, HS⟩ := hrel
  by_cases hlt : i < j
  ·have hlt' : (i : Int) < (j : Int) := by omega
   have had : (a : Int) < (d0.size : Int) := by omega
   have ha0 : (0 : Int) ≤ (a : Int) := by omega
   obtain ⟨h, hh⟩ : ∃ h : Nat, h = (i + j) / 2 := ⟨_, rfl⟩
   have hhI : ((i : Int) + (j : Int)) / 2 = (h : Int) := by omega
   have hih : i ≤ h := by omega
   have hhj : h < j := by omega
   clear hh
   have hwh : IntKind.i64.wrap ((h : Int) + 1) = (h : Int) + 1 := by rw [IntKind.wrap_i64]; omega
   have hh0 : (0 : Int) ≤ (h : Int) := by omega
   have hhd : (h : Int) < (d0.size : Int) := by omega
   by_cases hv : icmp d[h]! d[a]! < 0
   ·have HN := Lib.hid (show In1 d a m b (h + 1) j from ⟨.inr (decide_eq_true hv), HI.out.2⟩)
    have lx0 := fun n os => (swi_cells R (HS.out.grown n os) hs (i := h) (by omega)).1
    have lx1 := fun n os => (swi_cells R (HS.out.grown n os) hs (i := h) (by omega)).2.1
    have ly0 := fun n os => (swi_cells R (HS.out.grown n os) hs (i := a) (by omega)).1
    have ly1 := fun n os => (swi_cells R (HS.out.grown n os) hs (i := a) (by omega)).2.1
    have hc := HS.out.cmp HC.out hs d[h]! d[a]!
    generalize d[h]! = XX at lx0 lx1 hc hv
    generalize d[a]! = YY at ly0 ly1 hc hv
    have hvd : decide (icmp XX YY < 0) = true := decide_eq_true hv
    go_wp2_with fail
    go_quiet_grown (first | (go_at_fn g; refine Calls.grown_of (hc _ _)))
    have S2 := Lib.hid (HS.out.grown nq osq)
    clear lx0 lx1 ly0 ly1 hc
    generalize grow (wr.drewN nq) osq = w2 at S2 ⊢
    clear nq osq
    go_wp2
    go_roundw
    case rel => exact ⟨h + 1, j, by go_num, rfl, by omega, by omega, hjb, HN, S2⟩
    case measure => simp [intOf]; omega
   ·have HN := Lib.hid (show In1 d a m b i h from ⟨HI.out.1, .inr (decide_eq_false hv)⟩)
    have lx0 := fun n os => (swi_cells R (HS.out.grown n os) hs (i := h) (by omega)).1
    have lx1 := fun n os => (swi_cells R (HS.out.grown n os) hs (i := h) (by omega)).2.1
    have ly0 := fun n os => (swi_cells R (HS.out.grown n os) hs (i := a) (by omega)).1
    have ly1 := fun n os => (swi_cells R (HS.out.grown n os) hs (i := a) (by omega)).2.1
    have hc := HS.out.cmp HC.out hs d[h]! d[a]!
    generalize d[h]! = XX at lx0 lx1 hc hv
    generalize d[a]! = YY at ly0 ly1 hc hv
    have hvd : decide (icmp XX YY < 0) = false := decide_eq_false hv
    go_wp2_with fail
    go_quiet_grown (first | (go_at_fn g; refine Calls.grown_of (hc _ _)))
    have S2 := Lib.hid (HS.out.grown nq osq)
    clear lx0 lx1 ly0 ly1 hc
    generalize grow (wr.drewN nq) osq = w2 at S2 ⊢
    clear nq osq
    go_wp2
    go_roundw
    case rel => exact ⟨i, h, rfl, rfl, hmi, hih, by omega, HN, S2⟩
    case measure => simp [intOf]; omega
  ·have hji : j = i := by omega
   subst hji
   have hlt' : ¬ (j : Int) < (j : Int) := by omega
   obtain ⟨q, hq⟩ : ∃ q, q + 1 = j := ⟨j - 1, by omega⟩
   have hqa : a ≤ q := by omega
   have hqb : q < b := by omega
   have wq : IntKind.i64.wrap ((j : Int) - 1) = (q : Int) := by rw [IntKind.wrap_i64]; omega
   have HQ := Lib.hid (show (q = a ∨ ltOf icmp d[q]! d[a]! = true) ∧ (q + 1 = b ∨ ltOf icmp d[q + 1]! d[a]! = false) from ⟨HI.out.1.elim (fun e => .inl (by omega)) (fun e => .inr (by rw [← hq] at e; exact e)), by rw [hq]; exact HI.out.2⟩)
   clear HI hq
   go_wp2
   go_loopw [13] (fun vk wr => ∃ (k : Nat) (dk : Array Iss), vk = .int .i64 (k : Nat) ∧ a ≤ k ∧ k ≤ q ∧ dk.size = d0.size ∧ Hid (ShR d dk a k ∧ PermIn a b d dk) ∧ Hid (SWI w0 blk off dk wr)) (fun vk _ => q - (intOf vk).toNat)
   case atStart => exact ⟨a, d, rfl, Nat.le_refl _, hqa, hs, Lib.hid ⟨ShR.start d a, permIn_refl _ _ _⟩, HS⟩
   case round =>
    obtain ⟨k, dk, rfl, hak, hkq, hds, HP, HS2⟩ := hrel
    by_cases hkl : k < q
    ·have hkl' : (k : Int) < (q : Int) := by omega
     have wk : IntKind.i64.wrap ((k : Int) + 1) = (k : Int) + 1 := by rw [IntKind.wrap_i64]; omega
     have eI : ((k : Int)).toNat = k := by omega
     have pI : (0 : Int) ≤ (k : Int) := by omega
     have bI : (k : Int) < (d0.size : Int) := by omega
     have eJ : ((k : Int) + 1).toNat = k + 1 := by omega
     have pJ : (0 : Int) ≤ (k : Int) + 1 := by omega
     have bJ : (k : Int) + 1 < (d0.size : Int) := by omega
     have S9 := Lib.hid (swi_swap R HS2.out (k) (k + 1) (by omega) (by omega))
     obtain ⟨xi0, xi1, xi2, xi3⟩ := swi_cells R HS2.out hds (i := k) (by omega)
     obtain ⟨xj0, xj1, xj2, xj3⟩ := swi_cells R HS2.out hds (i := k + 1) (by omega)
     generalize dk[k]! = XI at S9 xi0 xi1
     generalize dk[k + 1]! = XJ at S9 xj0 xj1
     go_wp2_with fail
     go_big_region_o
     clear xi0 xi1 xi2 xi3 xj0 xj1 xj2 xj3 eI pI bI eJ pJ bJ
     all_goals go_wp2
     go_roundw
     case rel => exact ⟨k + 1, _, by go_num, by omega, by omega, by rw [size_swp]; exact hds, Lib.hid ⟨HP.out.1.step hak (by omega), permIn_trans _ _ _ _ _ HP.out.2 (swp_permIn _ _ _ _ _ (by omega) (by omega) (by omega) (by omega) (by omega))⟩, S9⟩
     case measure => simp [intOf]; omega
    ·have hkq' : k = q := by omega
     subst hkq'
     have hkl' : ¬ (k : Int) < (k : Int) := by omega
     go_wp2
     first | go_end0 | refine bodyPost_ret (results_none rfl _ _ _) rfl ?_
     exact ⟨rfl, dk, hds, HP.out.1.sorted ilt_swo hqa hqb ((show m = a + 1 by omega) ▸ H2.out) HQ.out.1 HQ.out.2, HP.out.2, HS2.out⟩
set_option maxRecDepth 100000 in
set_option maxHeartbeats 16000000 in
theorem symMergeB_any (g : Nat) (eg : ∀ args w, (callFunc g args).run Tryz.prog w = .ok (.enter g args) w) (hcmp : ∀ x y W, Calls Tryz.prog g #[.agg (encI x).toArray, .agg (encI y).toArray] W fun e w' => e = .returned (.int .i64 (icmp x y)) ∧ BelowD W.heap.size W w')
  (blk off cap : Nat) (d0 : Array Iss) (w0 : World) (R : RowK encI 2 w0 blk off d0) (hsz : d0.size ≤ 1048576)
  (a m b : Nat) (d : Array Iss) (w : World) (S : SWI w0 blk off d w) (hs : d.size = d0.size) (_ham : a < m) (hmb : m < b) (hb : b ≤ d0.size) (s1 : SortedIn (ltOf icmp) a m d) (s2 : SortedIn (ltOf icmp) m b d) (c1 : ¬ m ≤ a + 1) (c2 : b ≤ m + 1) :
  Calls Tryz.prog 136 #[.slice (some ⟨blk, off, none⟩) d0.size cap, .int .i64 a, .int .i64 m, .int .i64 b, .func (.func g) #[] #[]] w fun e w' => e = .returned (.tuple #[]) ∧ ∃ d', d'.size = d0.size ∧ SortedIn (ltOf icmp) a b d' ∧ PermIn a b d d' ∧ SWI w0 blk off d' w' := by
 have HC : Hid (CmpLays Tryz.prog g #[] encI 2 icmp blk off d0.size w0) := fun m os dk _ x y => (hcmp x y _).mono fun e w' ⟨h1, h2⟩ => ⟨h1, grow_of_belowD h2⟩
 clear hcmp
 have HS0 := Lib.hid S
 have mixed := Tryz.insI.mixed
 have H1 := Lib.hid s1
 have H2 := Lib.hid s2
 clear S s1 s2
 have wma : IntKind.i64.wrap ((m : Int) - (a : Int)) = (m : Int) - (a : Int) := by rw [IntKind.wrap_i64]; omega
 have wbm : IntKind.i64.wrap ((b : Int) - (m : Int)) = (b : Int) - (m : Int) := by rw [IntKind.wrap_i64]; omega
 have c1d : decide ((m : Int) - (a : Int) = 1) = false := decide_eq_false (by omega)
 have c1b : ((m : Int) - (a : Int) == 1) = false := by rw [beq_eq_false_iff_ne]; omega
 have c1e : ¬ (m : Int) - (a : Int) = 1 := by omega
 have c2d : decide ((b : Int) - (m : Int) = 1) = true := decide_eq_true (by omega)
 have c2b : ((b : Int) - (m : Int) == 1) = true := by rw [beq_iff_eq]; omega
 have c2e : (b : Int) - (m : Int) = 1 := by omega
 go_enter Tryz.func136, Tryz.ntmps136
 go_wp2
 go_loopw [14, 15] (fun vi vj wr => ∃ i j : Nat, vi = .int .i64 (i : Nat) ∧ vj = .int .i64 (j : Nat) ∧ a ≤ i ∧ i ≤ j ∧ j ≤ m ∧ Hid (In2 d a m i j) ∧ Hid (SWI w0 blk off d wr)) (fun vi vj _ => (intOf vj).toNat - (intOf vi).toNat)
 case atStart => exact ⟨a, m, rfl, rfl, Nat.le_refl _, by omega, Nat.le_refl _, Lib.hid ⟨.inl rfl, .inl rfl⟩, HS0⟩
 case round =>
  obtain ⟨i, j, rfl, rfl, hmi, hij, hjb, HI, HS⟩ := hrel
  by_cases hlt : i < j
  ·have hlt' : (i : Int) < (j : Int) := by omega
   have had : (m : Int) < (d0.size : Int) := by omega
   have ha0 : (0 : Int) ≤ (m : Int) := by omega
   obtain ⟨h, hh⟩ : ∃ h : Nat, h = (i + j) / 2 := ⟨_, rfl⟩
   have hhI : ((i : Int) + (j : Int)) / 2 = (h : Int) := by omega
   have hih : i ≤ h := by omega
   have hhj : h < j := by omega
   clear hh
   have hwh : IntKind.i64.wrap ((h : Int) + 1) = (h : Int) + 1 := by rw [IntKind.wrap_i64]; omega
   have hh0 : (0 : Int) ≤ (h : Int) := by omega
   have hhd : (h : Int) < (d0.size : Int) := by omega
   by_cases hv : icmp d[m]! d[h]! < 0
   ·have HN := Lib.hid (show In2 d a m i h from ⟨HI.out.1, .inr (decide_eq_true hv)⟩)
    have lx0 := fun n os => (swi_cells R (HS.out.grown n os) hs (i := m) (by omega)).1
    have lx1 := fun n os => (swi_cells R (HS.out.grown n os) hs (i := m) (by omega)).2.1
    have ly0 := fun n os => (swi_cells R (HS.out.grown n os) hs (i := h) (by omega)).1
    have ly1 := fun n os => (swi_cells R (HS.out.grown n os) hs (i := h) (by omega)).2.1
    have hc := HS.out.cmp HC.out hs d[m]! d[h]!
    generalize d[m]! = XX at lx0 lx1 hc hv
    generalize d[h]! = YY at ly0 ly1 hc hv
    have hvd : decide (icmp XX YY < 0) = true := decide_eq_true hv
    go_wp2_with fail
    go_quiet_grown (first | (go_at_fn g; refine Calls.grown_of (hc _ _)))
    have S2 := Lib.hid (HS.out.grown nq osq)
    clear lx0 lx1 ly0 ly1 hc
    generalize grow (wr.drewN nq) osq = w2 at S2 ⊢
    clear nq osq
    go_wp2
    go_roundw
    case rel => exact ⟨i, h, rfl, rfl, hmi, hih, by omega, HN, S2⟩
    case measure => simp [intOf]; omega
   ·have HN := Lib.hid (show In2 d a m (h + 1) j from ⟨.inr (decide_eq_false hv), HI.out.2⟩)
    have lx0 := fun n os => (swi_cells R (HS.out.grown n os) hs (i := m) (by omega)).1
    have lx1 := fun n os => (swi_cells R (HS.out.grown n os) hs (i := m) (by omega)).2.1
    have ly0 := fun n os => (swi_cells R (HS.out.grown n os) hs (i := h) (by omega)).1
    have ly1 := fun n os => (swi_cells R (HS.out.grown n os) hs (i := h) (by omega)).2.1
    have hc := HS.out.cmp HC.out hs d[m]! d[h]!
    generalize d[m]! = XX at lx0 lx1 hc hv
    generalize d[h]! = YY at ly0 ly1 hc hv
    have hvd : decide (icmp XX YY < 0) = false := decide_eq_false hv
    go_wp2_with fail
    go_quiet_grown (first | (go_at_fn g; refine Calls.grown_of (hc _ _)))
    have S2 := Lib.hid (HS.out.grown nq osq)
    clear lx0 lx1 ly0 ly1 hc
    generalize grow (wr.drewN nq) osq = w2 at S2 ⊢
    clear nq osq
    go_wp2
    go_roundw
    case rel => exact ⟨h + 1, j, by go_num, rfl, by omega, by omega, hjb, HN, S2⟩
    case measure => simp [intOf]; omega
  ·have hji : j = i := by omega
   subst hji
   have hlt' : ¬ (j : Int) < (j : Int) := by omega
   have hja : a ≤ j := hmi
   go_wp2
   go_loopw [17] (fun vk wr => ∃ (k : Nat) (dk : Array Iss), vk = .int .i64 (k : Nat) ∧ j ≤ k ∧ k ≤ m ∧ dk.size = d0.size ∧ Hid (ShL d dk k m ∧ PermIn a b d dk) ∧ Hid (SWI w0 blk off dk wr)) (fun vk _ => (intOf vk).toNat)
   case atStart => exact ⟨m, d, rfl, hjb, Nat.le_refl _, hs, Lib.hid ⟨ShL.start d m, permIn_refl _ _ _⟩, HS⟩
   case round =>
    obtain ⟨k, dk, rfl, hak, hkq, hds, HP, HS2⟩ := hrel
    by_cases hkl : j < k
    ·have hkl' : (j : Int) < (k : Int) := by omega
     obtain ⟨q, hq⟩ : ∃ q, k = q + 1 := ⟨k - 1, by omega⟩
     have wk : IntKind.i64.wrap ((k : Int) - 1) = (q : Int) := by rw [IntKind.wrap_i64]; omega
     have HPq := Lib.hid (show ShL d dk (q + 1) m ∧ PermIn a b d dk from hq ▸ HP.out)
     have HQ := Lib.hid hq
     have hq1 : q < k := by omega
     have hq2 : k ≤ q + 1 := by omega
     clear HP hq
     have eI : ((k : Int)).toNat = k := by omega
     have pI : (0 : Int) ≤ (k : Int) := by omega
     have bI : (k : Int) < (d0.size : Int) := by omega
     have eJ : ((q : Int)).toNat = q := by omega
     have pJ : (0 : Int) ≤ (q : Int) := by omega
     have bJ : (q : Int) < (d0.size : Int) := by omega
     have S9 := Lib.hid (swi_swap R HS2.out (k) (q) (by omega) (by omega))
     obtain ⟨xi0, xi1, xi2, xi3⟩ := swi_cells R HS2.out hds (i := k) (by omega)
     obtain ⟨xj0, xj1, xj2, xj3⟩ := swi_cells R HS2.out hds (i := q) (by omega)
     generalize dk[k]! = XI at S9 xi0 xi1
     generalize dk[q]! = XJ at S9 xj0 xj1
     go_wp2_with fail
     go_big_region_o
     clear xi0 xi1 xi2 xi3 xj0 xj1 xj2 xj3 eI pI bI eJ pJ bJ
     all_goals go_wp2
     go_roundw
     case rel => exact ⟨q, _, by first | rfl | go_num, by omega, by omega, by rw [size_swp]; exact hds, Lib.hid ⟨HQ.out ▸ HPq.out.1.step (by omega) (by omega), permIn_trans _ _ _ _ _ HPq.out.2 (swp_permIn _ _ _ _ _ (by omega) (by omega) (by omega) (by omega) (by omega))⟩, S9⟩
     case measure => simp [intOf]; omega
    ·have hkq' : k = j := by omega
     subst hkq'
     have hkl' : ¬ (k : Int) < (k : Int) := by omega
     go_wp2
     first | go_end0 | refine bodyPost_ret (results_none rfl _ _ _) rfl ?_
     exact ⟨rfl, dk, hds, (show b = m + 1 by omega) ▸ HP.out.1.sorted ilt_swo hja hjb H1.out HI.out.1 HI.out.2, HP.out.2, HS2.out⟩
end Go.Proofs.YthcgihgajdjfoaaGreatDoor
