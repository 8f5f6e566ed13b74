/- What the claim needs of: II IB. -/
import Derived.Test.YthcgihgajdjfoaaGreatDoorV20
import Derived.Test.YthcgihgajdjfoaaGreatDoorV12
import Derived.Test.YthcgihgajdjfoaaGreatDoorV3
import Derived.Test.YthcgihgajdjfoaaGreatDoorV7
namespace Go.Proofs.YthcgihgajdjfoaaGreatDoor
open Go.RowKit Go.Sort Go.Shelf
def encN (n : Int) : List Value := [.int .i64 n]
def idxN (l : List Int) (e : Int) : Int := if l.findIdx (fun r => decide (r = e)) < l.length then (l.findIdx (fun r => decide (r = e)) : Int) else -1
theorem idxN_hit {l : List Int} {e : Int} {k : Nat} (hk : k < l.length) (h : l[k] = e) (hn : e ∉ l.take k) : idxN l e = k := by
 have : l.findIdx (fun r => decide (r = e)) = k := (List.findIdx_eq hk).2 ⟨by simpa using h, fun j hj => by
  have h2 : l[j]'(by omega) ≠ e := fun h3 => hn (h3 ▸ List.mem_take_iff_getElem.2 ⟨j, by omega, rfl⟩)
  simpa using h2⟩
 unfold idxN
 rw [this, if_pos hk]
theorem idxN_miss {l : List Int} {e : Int} (hn : e ∉ l) : idxN l e = -1 := by
 have : l.findIdx (fun r => decide (r = e)) = l.length := List.findIdx_eq_length.2 fun x hx => by
  have : x ≠ e := fun h => hn (h ▸ hx)
  simpa using this
 unfold idxN
 rw [this, if_neg (Nat.lt_irrefl _)]
theorem prk_idx (e : Int) : idxN [7, 6, 17, 13, 20] e = prk e := by
 unfold prk
 by_cases h1 : e = 7
 ·subst h1; rfl
 by_cases h2 : e = 6
 ·subst h2; rfl
 by_cases h3 : e = 17
 ·subst h3; rfl
 by_cases h4 : e = 13
 ·subst h4; rfl
 by_cases h5 : e = 20
 ·subst h5; rfl
 rw [if_neg h1, if_neg h2, if_neg h3, if_neg h4, if_neg h5]
 exact idxN_miss (by simp [h1, h2, h3, h4, h5])
theorem Sl.numE {w : World} {B : Nat} {A : Option Addr} {l : List Int} (h : Sl w B 1 encN A l) {i : Nat} (hi : i < l.length) :
  ∃ b off, A = some ⟨b, off, none⟩ ∧ b < B ∧ w.cell? ⟨b, off + i, none⟩ = some (.int .i64 l[i]) := by
 obtain ⟨b, off, e, hb, hc⟩ := h.at_ hi
 exact ⟨b, off, e, hb, by simpa using hc 0 _ rfl⟩
set_option maxRecDepth 100000 in
set_option maxHeartbeats 2000000 in
theorem indexN_any (A : Option Addr) (c : Nat) (l : List Int) (e : Int) (w : World) (hA : Sl w w.heap.size 1 encN A l) (hl : l.length ≤ 1000) :
  Calls Tryz.prog 95 #[.slice A l.length c, .int .i64 e] w fun r w' => r = .returned (.int .i64 (idxN l e)) ∧ w' = w := by
 have HA := Lib.hid hA
 obtain ⟨r, hr⟩ : ∃ r, r = idxN l e := ⟨_, rfl⟩
 rw [← hr]
 have HR := Lib.hid hr
 clear hA hr
 go_enter Tryz.func95, Tryz.ntmps95
 go_wp2
 go_loopw [8] (fun i wr => ∃ k : Nat, k ≤ l.length ∧ i = .int .i64 (k : Nat) ∧ wr = w ∧ Hid (e ∉ l.take k)) (fun i _ => l.length - (intOf i).toNat)
 case atStart => exact ⟨0, Nat.zero_le _, rfl, rfl, Lib.hid (by simp)⟩
 case round =>
  obtain ⟨k, hk, rfl, rfl, HI⟩ := hrel
  by_cases hlt : k < l.length
  ·have hlt' : (k : Int) < (l.length : Int) := by omega
   obtain ⟨b, off, hA1, hbB, g0⟩ := HA.out.numE hlt
   have HTk := Lib.hid (List.take_succ_eq_append_getElem hlt)
   have HHit := Lib.hid (fun h => idxN_hit hlt h HI.out)
   generalize l[k] = y at g0 HTk HHit
   have HA1 := Lib.hid hA1
   subst hA1
   by_cases hy : e = y
   ·have HF := Lib.hid (show r = k from by rw [HR.out]; exact HHit.out hy.symm)
    subst hy
    clear HTk HHit
    go_wp2
    go_ret
    exact ⟨by rw [HF.out]; rfl, rfl⟩
   ·have hyb : (e == y) = false := beq_eq_false_iff_ne.2 hy
    have HI2 := Lib.hid (show e ∉ l.take (k + 1) from by
     rw [HTk.out, List.mem_append, List.mem_singleton]
     rintro (h | h)
     ·exact HI.out h
     ·exact hy h)
    clear hy HTk HHit
    go_wp2
    go_roundw
    case rel => exact ⟨k + 1, by omega, by go_num, by first | rfl | trivial, HI2⟩
    case measure => simp [intOf]; omega
  ·obtain rfl : k = l.length := by omega
   have HF := Lib.hid (show r = -1 from by rw [HR.out]; exact idxN_miss (by have h := HI.out; rwa [List.take_length] at h))
   go_wp2
   go_ret
   exact ⟨by rw [HF.out]; rfl, rfl⟩
set_option maxRecDepth 100000 in
theorem rank_any (e : Int) (w : World) : Calls Tryz.prog 49 #[.int .i64 e] w fun r w' => r = .returned (.int .i64 (prk e)) ∧ BelowD w.heap.size w w' := by
 have hS : Sl (w.alloc (.cells #[.int .i64 7, .int .i64 6, .int .i64 17, .int .i64 13, .int .i64 20] 33)) (w.alloc (.cells #[.int .i64 7, .int .i64 6, .int .i64 17, .int .i64 13, .int .i64 20] 33)).heap.size 1 encN (some ⟨w.heap.size, 0, none⟩) [7, 6, 17, 13, 20] := by
  have V := Blk.new w 33 #[.int .i64 7, .int .i64 6, .int .i64 17, .int .i64 13, .int .i64 20]
  refine .inr ⟨w.heap.size, 0, rfl, by simp, fun i hi j v hv => ?_⟩
  match j, hv with
  | j + 1, hv => simp [encN] at hv
  | 0, hv =>
    simp only [encN, List.getElem?_cons_zero, Option.some.injEq] at hv
    subst hv
    match i, hi with
    | 0, _ => exact V.cell 0
    | 1, _ => exact V.cell 1
    | 2, _ => exact V.cell 2
    | 3, _ => exact V.cell 3
    | 4, _ => exact V.cell 4
    | n + 5, h => simp at h; omega
 have cI0 := indexN_any (some ⟨w.heap.size, 0, none⟩) 5 [7, 6, 17, 13, 20] e _ hS (by simp)
 rw [prk_idx] at cI0
 have cI := Lib.hid cI0
 clear cI0 hS
 go_enter Tryz.func49, Tryz.ntmps49
 go_wp2_with fail
 refine cI.out.mono ?_
 rintro r w1 ⟨rfl, rfl⟩
 go_wp2
 go_ret
 exact ⟨rfl, (BelowD.refl _ _).alloc (Nat.le_refl _) _⟩
theorem nanN_any (a : Int) (w : World) : Calls Tryz.prog 94 #[.int .i64 a] w fun e w' => e = .returned (.bool false) ∧ w' = w := by
 go_enter Tryz.func94, Tryz.ntmps94
 go_wp2
 go_ret
 exact ⟨rfl, rfl⟩
theorem cmpN_any (a b : Int) (w : World) : Calls Tryz.prog 48 #[.int .i64 a, .int .i64 b] w fun e w' => e = .returned (.int .i64 (cmpI a b)) ∧ w' = w := by
 unfold cmpI
 by_cases h1 : a < b
 ·rw [if_pos h1]
  go_enter Tryz.func48, Tryz.ntmps48
  go_wp2_with (go_at_call 94; refine (nanN_any _ _).mono ?_; rintro e w' ⟨rfl, rfl⟩)
  go_ret
  exact ⟨rfl, rfl⟩
 ·rw [if_neg h1]
  by_cases h2 : b < a
  ·rw [if_pos h2]
   go_enter Tryz.func48, Tryz.ntmps48
   go_wp2_with (go_at_call 94; refine (nanN_any _ _).mono ?_; rintro e w' ⟨rfl, rfl⟩)
   go_ret
   exact ⟨rfl, rfl⟩
  ·rw [if_neg h2]
   go_enter Tryz.func48, Tryz.ntmps48
   go_wp2_with (go_at_call 94; refine (nanN_any _ _).mono ?_; rintro e w' ⟨rfl, rfl⟩)
   go_ret
   exact ⟨rfl, rfl⟩
theorem OrI_any (b off c : Nat) (x y : Iss) (w : World) (h0 : w.cell? ⟨b, off, none⟩ = some (.int .i64 (scmp x.1 y.1))) (h1 : w.cell? ⟨b, off + 1, none⟩ = some (.int .i64 (cmpI (prk x.2) (prk y.2)))) :
  Calls Tryz.prog 46 #[.slice (some ⟨b, off, none⟩) 2 c] w fun e w' => e = .returned (.int .i64 (icmp x y)) ∧ w = w' := by
 have h := Or2_any b off c _ _ w h0 h1
 have e : (if scmp x.1 y.1 = 0 then cmpI (prk x.2) (prk y.2) else scmp x.1 y.1) = icmp x y := by
  unfold icmp
  by_cases h : scmp x.1 y.1 = 0 <;> simp [h]
 rw [e] at h
 exact h
theorem belD2 {w w1 w2 w3 : World} (h0 : BelowD w.heap.size w w1) (h1 : BelowD w1.drew.heap.size w1.drew w2) (h2 : BelowD w2.heap.size w2 w3) (o : Obj) : BelowD w.heap.size w (w3.alloc o) := by
 have a1 : w.heap.size ≤ w1.drew.heap.size := h0.size
 have a2 := h1.size
 have a3 := h2.size
 exact ((h0.drew.trans (h1.mono a1)).trans (h2.mono (by omega))).alloc (by omega) o
set_option maxRecDepth 100000 in
set_option maxHeartbeats 4000000 in
theorem icmpV_any (x y : Iss) (w : World) : Calls Tryz.prog 45 #[.agg #[.string ⟨x.1.toArray⟩, .int .i64 x.2], .agg #[.string ⟨y.1.toArray⟩, .int .i64 y.2]] w fun e w' => e = .returned (.int .i64 (icmp x y)) ∧ BelowD w.heap.size w w' := by
 have hB : BelowD w.heap.size w ((w.alloc (.cells #[.string ⟨x.1.toArray⟩, .int .i64 x.2] 67)).alloc (.cells #[.string ⟨y.1.toArray⟩, .int .i64 y.2] 67)) := ((BelowD.refl _ _).alloc (Nat.le_refl _) _).alloc (by simp) _
 have HB := Lib.hid hB
 clear hB
 go_enter Tryz.func45, Tryz.ntmps45
 go_wp2
 go_region_held3 (fun W => W.cell? ⟨w.heap.size, 0, none⟩ = some (.string ⟨x.1.toArray⟩) ∧ W.cell? ⟨w.heap.size, 1, none⟩ = some (.int .i64 x.2) ∧ W.cell? ⟨w.heap.size + 1, 0, none⟩ = some (.string ⟨y.1.toArray⟩) ∧ W.cell? ⟨w.heap.size + 1, 1, none⟩ = some (.int .i64 y.2)) (first | (simp; done) | (go_split_ands; (repeat' apply And.intro) <;> (first | assumption | (apply cell_keep; assumption; assumption) | (apply cell_keep_alloc; assumption))))
   (first | (go_at_call 47; refine (cmpS_any _ _ _).mono ?_; rintro e w' ⟨rfl, rfl⟩) | (go_at_call 49; refine (rank_any _ _).mono ?_; rintro e w' ⟨rfl, hb⟩; have hbB := hb.toBelow) | (go_at_call 48; refine (cmpN_any _ _ _).mono ?_; rintro e w' ⟨rfl, rfl⟩) | (go_at_call 46; refine (OrI_any _ _ _ x y _ ?_ ?_).mono ?_; (simp); (simp); rintro e w' ⟨rfl, rfl⟩))
 all_goals go_wp2
 all_goals go_ret
 all_goals
  rename_i w2 hb2 hbB2 hH
  exact ⟨rfl, belD2 HB.out hb2 hb _⟩
set_option maxRecDepth 100000 in
set_option maxHeartbeats 4000000 in
theorem icmpO_any (x y : Iss) (w : World) : Calls Tryz.prog 96 #[.agg #[.string ⟨x.1.toArray⟩, .int .i64 x.2], .agg #[.string ⟨y.1.toArray⟩, .int .i64 y.2]] w fun e w' => e = .returned (.int .i64 (icmp x y)) ∧ BelowD w.heap.size w w' := by
 have hB : BelowD w.heap.size w ((w.alloc (.cells #[.string ⟨x.1.toArray⟩, .int .i64 x.2] 67)).alloc (.cells #[.string ⟨y.1.toArray⟩, .int .i64 y.2] 67)) := ((BelowD.refl _ _).alloc (Nat.le_refl _) _).alloc (by simp) _
 have HB := Lib.hid hB
 clear hB
 go_enter Tryz.func96, Tryz.ntmps96
 go_wp2
 go_region_held3 (fun W => W.cell? ⟨w.heap.size, 0, none⟩ = some (.string ⟨x.1.toArray⟩) ∧ W.cell? ⟨w.heap.size, 1, none⟩ = some (.int .i64 x.2) ∧ W.cell? ⟨w.heap.size + 1, 0, none⟩ = some (.string ⟨y.1.toArray⟩) ∧ W.cell? ⟨w.heap.size + 1, 1, none⟩ = some (.int .i64 y.2)) (first | (simp; done) | (go_split_ands; (repeat' apply And.intro) <;> (first | assumption | (apply cell_keep; assumption; assumption) | (apply cell_keep_alloc; assumption))))
   (first | (go_at_call 47; refine (cmpS_any _ _ _).mono ?_; rintro e w' ⟨rfl, rfl⟩) | (go_at_call 49; refine (rank_any _ _).mono ?_; rintro e w' ⟨rfl, hb⟩; have hbB := hb.toBelow) | (go_at_call 48; refine (cmpN_any _ _ _).mono ?_; rintro e w' ⟨rfl, rfl⟩) | (go_at_call 46; refine (OrI_any _ _ _ x y _ ?_ ?_).mono ?_; (simp); (simp); rintro e w' ⟨rfl, rfl⟩))
 all_goals go_wp2
 all_goals go_ret
 all_goals
  rename_i w2 hb2 hbB2 hH
  exact ⟨rfl, belD2 HB.out hb2 hb _⟩
theorem elIssV : ElT Tryz.prog 53 67 2 24 := ElT.mk_ (z := .agg #[.string ByteArray.empty, .int .i64 0]) Tryz.underlying53 (by kernel_rfl) rfl (by decide)
theorem insI_none (A : Option Addr) (c : Nat) (f : Value) (w : World) : Calls Tryz.prog 135 #[.slice A 0 c, .int .i64 0, .int .i64 0, f] w fun e w' => e = .returned (.tuple #[]) ∧ w' = w := by
 go_enter Tryz.func135, Tryz.ntmps135
 go_wp2
 go_loopw [8] (fun i wr => i = .int .i64 1 ∧ wr = w) (fun _ _ => 0)
 case atStart => exact ⟨rfl, rfl⟩
 case round =>
  obtain ⟨rfl, rfl⟩ := hrel
  go_wp2
  go_end0
  exact ⟨rfl, by first | rfl | trivial⟩
theorem insI_any (g : Nat) (eg : ∀ args w, (callFunc g args).run Tryz.prog w = .ok (.enter g args) w) (hcmp : ∀ x y W, Calls Tryz.prog g #[.agg (encI x).toArray, .agg (encI y).toArray] W fun e w' => e = .returned (.int .i64 (icmp x y)) ∧ BelowD W.heap.size W w')
  (v : Value) (l : List Iss) (w : World) (base : Nat) (h : NewRowK w base 67 2 encI v l) (hl : l.length ≤ 1099511627776) :
  Calls Tryz.prog 135 #[v, .int .i64 0, .int .i64 (l.length : Nat), .func (.func g) #[] #[]] w (SortedTo w base 2 encI (ltOf icmp) v l) := by
 rcases h with ⟨rfl, A, c, rfl⟩ | ⟨hv, h⟩
 ·refine (insI_none A c _ w).mono ?_
  rintro e w' ⟨rfl, rfl⟩
  exact ⟨rfl, ⟨A, c, [], rfl, Nat.zero_le _, List.Perm.refl _, List.Pairwise.nil, .inl rfl⟩, Below.refl _ _⟩
 ·have hcap : ∀ A n c, v = .slice A n c → l.length ≤ c := by
   rcases h.2 with ⟨rfl, _⟩ | ⟨g, cap, cur, rfl, _, _, hc, _⟩
   ·exact absurd rfl hv
   ·intro A n c e
    injection e with _ _ e3
    omega
  obtain ⟨g', cap, rfl, hbase, hlt, hH⟩ := holdsK_of_owns encI_len h hv
  have hin := insertionSort_holds (lt := ltOf icmp) ilt_swo l.toArray 0 l.toArray.size (Nat.zero_le _) (Nat.le_refl _)
  have hq := AnyQ.insertionSortCmpFunc Tryz.insI 2 Tryz.isAgg67 Tryz.sizeOf67 encI encI_len encI_one1 icmp g #[] g' 0 cap 0 l.toArray.size l.toArray w eg (fun m os dk _ x y => (hcmp x y _).mono fun e w' ⟨h1, h2⟩ => ⟨h1, grow_of_belowD h2⟩) hH hlt (Nat.zero_le _) (Nat.le_refl _) (by simp; omega)
  generalize Sort.insertionSort (ltOf icmp) l.toArray 0 l.toArray.size = d' at hin hq
  obtain ⟨hp, hs⟩ := hin
  rw [List.size_toArray] at hq
  refine hq.mono ?_
  rintro e w' ⟨rfl, n, os, rfl⟩
  have hsz : d'.size = l.length := by simpa using hp.1
  refine ⟨rfl, ⟨_, _, d'.toList, rfl, hcap _ _ _ rfl, perm_of_permIn hp, pairwise_of_sortedIn hs (by simpa using hsz), ?_⟩, below_sortWorldK hbase hlt⟩
  refine sl_of_holdsK encI_len (l := d'.toList) (by have := holdsK_sortWorldK_c encI 2 w g' 0 l.toArray d' n os hH hlt (by simpa using hsz); simpa using this) ?_
  exact Nat.lt_of_lt_of_le hlt (size_sortWorldK_c encI 2 w g' 0 n _ os)
def sortCap : Nat := 19
set_option maxRecDepth 100000 in
theorem stableI_any (g : Nat) (eg : ∀ args w, (callFunc g args).run Tryz.prog w = .ok (.enter g args) w) (hcmp : ∀ x y W, Calls Tryz.prog g #[.agg (encI x).toArray, .agg (encI y).toArray] W fun e w' => e = .returned (.int .i64 (icmp x y)) ∧ BelowD W.heap.size W w')
  (v : Value) (l : List Iss) (w : World) (base : Nat) (h : NewRowK w base 67 2 encI v l) (hl : l.length ≤ sortCap) :
  Calls Tryz.prog 92 #[v, .int .i64 (l.length : Nat), .func (.func g) #[] #[]] w (SortedTo w base 2 encI (ltOf icmp) v l) := by
 have cI := Lib.hid (insI_any g eg hcmp v l w base h (by unfold sortCap at hl; omega))
 obtain ⟨A, c, rfl, hlc⟩ := h.slice
 have hl1 : l.length < 20 := by unfold sortCap at hl; omega
 have hl2 : ¬ (20 : Int) ≤ (l.length : Int) := by omega
 have hl3 : ¬ (20 : Int) < (l.length : Int) := by omega
 have hl4 : decide ((20 : Int) ≤ (l.length : Int)) = false := decide_eq_false hl2
 have hl5 : decide ((20 : Int) < (l.length : Int)) = false := decide_eq_false hl3
 generalize hQ : SortedTo w base 2 encI (ltOf icmp) (.slice A l.length c) l = Q at cI
 have HQ := Lib.hid hQ
 clear hQ hcmp eg h hl hl1
 go_enter Tryz.func92, Tryz.ntmps92
 go_wp2
 go_loopw [7, 8] (fun a b wr => a = .int .i64 0 ∧ b = .int .i64 20 ∧ wr = w) (fun _ _ _ => 0)
 case atStart => exact ⟨rfl, rfl, rfl⟩
 case round =>
  obtain ⟨rfl, rfl, rfl⟩ := hrel
  go_wp2_with fail
  refine cI.out.mono ?_
  intro e w2 hq
  have HQ2 := Lib.hid hq
  have hr : e = .returned (.tuple #[]) := by
   have h := HQ2.out
   rw [← HQ.out] at h
   exact h.1
  subst hr
  clear hq cI
  go_wp2
  go_loopw [6] (fun b wr => b = .int .i64 20 ∧ wr = w2) (fun _ _ => 0)
  case atStart => exact ⟨rfl, rfl⟩
  case round =>
   obtain ⟨rfl, rfl⟩ := hrel
   go_wp2
   go_end0
   exact HQ2.out
set_option maxRecDepth 100000 in
theorem sortI_any (g : Nat) (eg : ∀ args w, (callFunc g args).run Tryz.prog w = .ok (.enter g args) w) (hcmp : ∀ x y W, Calls Tryz.prog g #[.agg (encI x).toArray, .agg (encI y).toArray] W fun e w' => e = .returned (.int .i64 (icmp x y)) ∧ BelowD W.heap.size W w')
  (v : Value) (l : List Iss) (w : World) (base : Nat) (h : NewRowK w base 67 2 encI v l) (hl : l.length ≤ sortCap) :
  Calls Tryz.prog 44 #[v, .func (.func g) #[] #[]] w (SortedTo w base 2 encI (ltOf icmp) v l) := by
 have cI := Lib.hid (stableI_any g eg hcmp v l w base h hl)
 obtain ⟨A, c, rfl, hlc⟩ := h.slice
 generalize hQ : SortedTo w base 2 encI (ltOf icmp) (.slice A l.length c) l = Q at cI
 have HQ := Lib.hid hQ
 clear hQ hcmp eg h hl
 go_enter Tryz.func44, Tryz.ntmps44
 go_wp2_with fail
 refine cI.out.mono ?_
 intro e w2 hq
 have HQ2 := Lib.hid hq
 have hr : e = .returned (.tuple #[]) := by
  have h := HQ2.out
  rw [← HQ.out] at h
  exact h.1
 subst hr
 clear hq cI
 go_wp2
 go_end0
 exact HQ2.out
def SortsI (cap : Nat) : Prop := ∀ (g : Nat) (_eg : ∀ args w, (callFunc g args).run Tryz.prog w = .ok (.enter g args) w) (_hcmp : ∀ x y W, Calls Tryz.prog g #[.agg (encI x).toArray, .agg (encI y).toArray] W fun e w' => e = .returned (.int .i64 (icmp x y)) ∧ BelowD W.heap.size W w')
    (v : Value) (l : List Iss) (w : World) (base : Nat) (_h : NewRowK w base 67 2 encI v l) (_hl : l.length ≤ cap),
    Calls Tryz.prog 44 #[v, .func (.func g) #[] #[]] w (SortedTo w base 2 encI (ltOf icmp) v l)
theorem sortsI_few : SortsI sortCap := sortI_any
end Go.Proofs.YthcgihgajdjfoaaGreatDoor
namespace Go.Proofs.YthcgihgajdjfoaaGreatDoor
open Go.RowKit Go.Sort
theorem filterMap_two {α β : Type} {f g h : α → Option β} : ∀ l : List α, (∀ x ∈ l, (g x = none ∧ f x = h x) ∨ (h x = none ∧ f x = g x)) → (l.filterMap f).Perm (l.filterMap g ++ l.filterMap h)
 | [], _ => by simp
 | x :: l, H => by
   have ih := filterMap_two l fun y hy => H y (by simp [hy])
   rcases H x (by simp) with ⟨h1, h2⟩ | ⟨h1, h2⟩
   ·rw [List.filterMap_cons, List.filterMap_cons, List.filterMap_cons, h1, h2]
    cases h x with
    | none => exact ih
    | some b => exact (ih.cons b).trans List.perm_middle.symm
   ·rw [List.filterMap_cons, List.filterMap_cons, List.filterMap_cons, h1, h2]
    cases g x with
    | none => exact ih
    | some b => exact ih.cons b
theorem lookE_none {E : List EntV} {m : Mod} : lookE E m = none ↔ m ∉ E.map (·.1) := by
 unfold lookE
 rw [Option.map_eq_none_iff, List.find?_eq_none]
 constructor
 ·intro h hm
  obtain ⟨e, he, rfl⟩ := List.mem_map.1 hm
  exact absurd (h e he) (by simp)
 ·intro h e he
  simp only [decide_eq_true_eq]
  rintro rfl
  exact h (List.mem_map.2 ⟨e, he, rfl⟩)
theorem lookE_some {E : List EntV} {m : Mod} {s : List UInt8} (h : lookE E m = some s) : (m, s) ∈ E := by
 unfold lookE at h
 obtain ⟨e, he, rfl⟩ := Option.map_eq_some_iff.1 h
 have h1 := List.mem_of_find?_eq_some he
 have h2 : e.1 = m := by simpa using List.find?_some he
 subst h2
 exact h1
theorem lookE_of {E : List EntV} (hn : (E.map (·.1)).Nodup) {e : EntV} (he : e ∈ E) : lookE E e.1 = some e.2 := by
 induction E with
 | nil => cases he
 | cons x E ih =>
   rw [List.map_cons, List.nodup_cons] at hn
   rcases List.mem_cons.1 he with rfl | he
   ·simp [lookE]
   ·have hne : x.1 ≠ e.1 := fun h => hn.1 (h ▸ List.mem_map.2 ⟨e, he, rfl⟩)
    have := ih hn.2 he
    simpa [lookE, hne] using this
theorem findR_none {L : List Rel} {m : Mod} : findR L m = none ↔ m ∉ L.map (·.1) := by
 unfold findR
 rw [List.find?_eq_none]
 constructor
 ·intro h hm
  obtain ⟨e, he, rfl⟩ := List.mem_map.1 hm
  exact absurd (h e he) (by simp)
 ·intro h e he
  simp only [decide_eq_true_eq]
  rintro rfl
  exact h (List.mem_map.2 ⟨e, he, rfl⟩)
theorem findR_some {L : List Rel} {m : Mod} {r : Rel} (h : findR L m = some r) : r ∈ L ∧ r.1 = m := ⟨List.mem_of_find?_eq_some h, by simpa using List.find?_some h⟩
theorem findR_of {L : List Rel} (hn : (L.map (·.1)).Nodup) {r : Rel} (hr : r ∈ L) : findR L r.1 = some r := by
 induction L with
 | nil => cases hr
 | cons x L ih =>
   rw [List.map_cons, List.nodup_cons] at hn
   rcases List.mem_cons.1 hr with rfl | hr
   ·simp [findR]
   ·have hne : x.1 ≠ r.1 := fun h => hn.1 (h ▸ List.mem_map.2 ⟨r, hr, rfl⟩)
    have := ih hn.2 hr
    simpa [findR, hne] using this
theorem nodup_filterMap_fst {α : Type} (k : α → Mod) (p : α → Bool) {l : List α} (hn : (l.map k).Nodup) : ((l.filter p).map k).Nodup := (List.Sublist.map k List.filter_sublist).nodup hn
theorem filterMap_if {α β : Type} (p : α → Bool) (f : α → β) (l : List α) : (l.filterMap fun x => if p x = true then some (f x) else none) = (l.filter p).map f := by
 induction l with
 | nil => rfl
 | cons x l ih =>
   rw [List.filterMap_cons, List.filter_cons]
   split <;> rename_i h
   ·split at h
    ·cases h
    ·rename_i hp; simp [hp, ih]
   ·split at h
    ·rename_i hp
     injection h with h
     simp [hp, ih, h]
    ·cases h
def sumR (E : List EntV) (r : Rel) : Bool := match lookE E r.1 with | none => false | some s => !decide (s = rtext r)
def sumE (L : List Rel) (e : EntV) : Bool := match findR L e.1 with | none => false | some r => !decide (rtext r = e.2)
theorem diff_perm {L : List Rel} {E : List EntV} (hL : (L.map (·.1)).Nodup) (hE : (E.map (·.1)).Nodup) : (diffP L E).Perm (rdiffP L E) := by
 have hS : ((L.filter (sumR E)).map (·.1)).Perm ((E.filter (sumE L)).map (·.1)) := by
  rw [List.perm_ext_iff_of_nodup (nodup_filterMap_fst _ _ hL) (nodup_filterMap_fst _ _ hE)]
  intro m
  constructor
  ·intro h
   obtain ⟨r, hr, rfl⟩ := List.mem_map.1 h
   obtain ⟨h1, h2⟩ := List.mem_filter.1 hr
   unfold sumR at h2
   cases hl : lookE E r.1 with
   | none => rw [hl] at h2; cases h2
   | some s =>
     rw [hl] at h2
     have hm := lookE_some hl
     refine List.mem_map.2 ⟨(r.1, s), List.mem_filter.2 ⟨hm, ?_⟩, rfl⟩
     unfold sumE
     rw [findR_of hL h1]
     simp only [Bool.not_eq_true', decide_eq_false_iff_not] at h2 ⊢
     exact fun h => h2 h.symm
  ·intro h
   obtain ⟨e, he, rfl⟩ := List.mem_map.1 h
   obtain ⟨h1, h2⟩ := List.mem_filter.1 he
   unfold sumE at h2
   cases hl : findR L e.1 with
   | none => rw [hl] at h2; cases h2
   | some r =>
     rw [hl] at h2
     obtain ⟨hm, hq⟩ := findR_some hl
     refine List.mem_map.2 ⟨r, List.mem_filter.2 ⟨hm, ?_⟩, hq⟩
     unfold sumR
     rw [hq, lookE_of hE h1]
     simp only [Bool.not_eq_true', decide_eq_false_iff_not] at h2 ⊢
     exact fun h => h2 h.symm
 have hS' : ((L.filter (sumR E)).map fun r => ((r.1.1, 17) : Iss)).Perm ((E.filter (sumE L)).map fun e => ((e.1.1, 17) : Iss)) := by
  have := hS.map fun m : Mod => ((m.1, 17) : Iss)
  rwa [List.map_map, List.map_map] at this
 have h1 : (L.filterMap (diffR E)).Perm (L.filterMap (rdiffR E) ++ (L.filter (sumR E)).map fun r => ((r.1.1, 17) : Iss)) := by
  rw [← filterMap_if]
  refine filterMap_two L fun r _ => ?_
  unfold diffR rdiffR sumR
  cases hl : lookE E r.1 with
  | none =>
    refine .inr ⟨by simp, ?_⟩
    rw [if_neg (lookE_none.1 hl)]
  | some s =>
    have hm : r.1 ∈ E.map (·.1) := List.mem_map.2 ⟨_, lookE_some hl, rfl⟩
    refine .inl ⟨if_pos hm, ?_⟩
    by_cases hs : s = rtext r <;> simp [hs]
 have h2 : (E.filterMap (rdiffE L)).Perm (E.filterMap (diffE L) ++ (E.filter (sumE L)).map fun e => ((e.1.1, 17) : Iss)) := by
  rw [← filterMap_if]
  refine filterMap_two E fun e _ => ?_
  unfold diffE rdiffE sumE
  cases hl : findR L e.1 with
  | none =>
    refine .inr ⟨by simp, ?_⟩
    rw [if_neg (findR_none.1 hl)]
  | some r =>
    have hm : e.1 ∈ L.map (·.1) := List.mem_map.2 ⟨_, (findR_some hl).1, (findR_some hl).2⟩
    refine .inl ⟨if_pos hm, ?_⟩
    by_cases hs : rtext r = e.2 <;> simp [hs]
 unfold diffP rdiffP
 refine (h1.append_right _).trans (List.Perm.trans ?_ (h2.append_right _).symm)
 rw [List.append_assoc, List.append_assoc]
 refine List.perm_append_comm.trans ?_
 rw [List.append_assoc]
 refine (List.Perm.append_right _ hS').trans ?_
 refine List.perm_append_comm.trans ?_
 rw [List.append_assoc]
 refine List.Perm.append_left _ ?_
 exact List.perm_append_comm
theorem diff_ph {L : List Rel} {E : List EntV} : ∀ x ∈ rdiffP L E, ph1 x := by
 intro x hx
 unfold rdiffP at hx
 rcases List.mem_append.1 hx with h | h
 ·obtain ⟨e, _, he⟩ := List.mem_filterMap.1 h
  unfold rdiffE at he
  split at he
  ·injection he with he; subst he; exact .inl rfl
  ·split at he
   ·cases he
   ·injection he with he; subst he; exact .inr (.inr rfl)
 ·obtain ⟨e, _, he⟩ := List.mem_filterMap.1 h
  unfold rdiffR at he
  split at he
  ·cases he
  ·injection he with he; subst he; exact .inr (.inl rfl)
theorem abs_perm (L : List Rel) (rp : List UInt8) : ∀ (q : List Mod) (S : List (List UInt8)) (out : List Iss), out.Perm (S.map fun p => ((p, 13) : Iss)) → (q.foldl (absR L rp) out).Perm ((q.foldl (absStep L rp) S).map fun p => ((p, 13) : Iss))
 | [], _, _, h => h
 | m :: q, S, out, h => by
   rw [List.foldl_cons, List.foldl_cons]
   refine abs_perm L rp q _ _ ?_
   have hi : ((m.1, (13 : Int)) ∈ out) ↔ m.1 ∈ S := by
    rw [h.mem_iff, List.mem_map]
    exact ⟨fun ⟨p, hp, e⟩ => by injection e with e; exact e ▸ hp, fun hm => ⟨_, hm, rfl⟩⟩
   unfold absR absStep
   by_cases hc : m.1 ≠ rp ∧ m.1 ∉ S ∧ metP L m false = false
   ·rw [if_pos hc, if_pos ⟨hc.1, hc.2.2, fun h => hc.2.1 (hi.1 h)⟩, List.map_append]
    exact (putI_perm _ _).trans (h.append_right _)
   ·rw [if_neg hc, if_neg fun h => hc ⟨h.1, fun h' => h.2.2 (hi.2 h'), h.2.1⟩]
    exact h
theorem out_perm (rp : List UInt8) (rl : List Mod) (L : List Rel) : (outP rp rl L).Perm (outR rp rl L) := by
 have h1 := abs_perm L rp (reqsP rl L) [] [] (List.Perm.refl _)
 have h2 := puts_perm (L.filterMap (staleR L)) ((reqsP rl L).foldl (absR L rp) [])
 refine List.Perm.symm (h2.trans ?_)
 refine (h1.append_right _).trans ?_
 exact List.perm_append_comm
theorem out_ph {rp : List UInt8} {rl : List Mod} {L : List Rel} : ∀ x ∈ outP rp rl L, ph2 x := by
 intro x hx
 unfold outP at hx
 rcases List.mem_append.1 hx with h | h
 ·obtain ⟨e, _, he⟩ := List.mem_filterMap.1 h
  unfold staleR at he
  split at he
  ·injection he with he; subst he; exact .inr rfl
  ·cases he
 ·obtain ⟨p, _, rfl⟩ := List.mem_map.1 h
  exact .inl rfl
theorem absR_sorted (L : List Rel) (rp : List UInt8) : ∀ (q : List Mod) {out : List Iss}, (out.Pairwise fun a b => ile a b = true) → (q.foldl (absR L rp) out).Pairwise fun a b => ile a b = true
 | [], _, h => h
 | m :: q, out, h => by
   rw [List.foldl_cons]
   refine absR_sorted L rp q ?_
   unfold absR
   split
   ·exact putI_sorted h _
   ·exact h
theorem out_sorted (rp : List UInt8) (rl : List Mod) (L : List Rel) : (outR rp rl L).Pairwise fun a b => ile a b = true := puts_sorted _ (absR_sorted L rp _ List.Pairwise.nil)
theorem diff_eq {L : List Rel} {E : List EntV} {l : List Iss} (hL : (L.map (·.1)).Nodup) (hE : (E.map (·.1)).Nodup) (hp : l.Perm (diffP L E)) (hs : l.Pairwise (leOf (ltOf icmp))) : l = isort (rdiffP L E) :=
 iss_sorted (hp.trans (diff_perm hL hE)) hs (.inl diff_ph)
theorem out_eq {rp : List UInt8} {rl : List Mod} {L : List Rel} {l : List Iss} (hp : l.Perm (outP rp rl L)) (hs : l.Pairwise (leOf (ltOf icmp))) : l = outR rp rl L := by
 have h2 : ∀ x ∈ l, ph2 x := fun x hx => out_ph x (hp.mem_iff.1 hx)
 have h := iss_sorted (l := l) (List.Perm.refl _) hs (.inr h2)
 refine iss_unique (hp.trans (out_perm rp rl L)) ?_ (out_sorted rp rl L) (.inr h2)
 rw [h]
 exact isort_sorted l
theorem isort_nil {l : List Iss} (h : isort l = []) : l = [] := by
 have := isort_perm l
 rw [h] at this
 exact this.symm.eq_nil
theorem lerr_nodup {L : List Rel} (h : lerr L = 0) : ferr L = 0 ∧ (L.map (·.1)).Nodup := by
 unfold lerr at h
 by_cases h1 : ferr L ≠ 0
 ·rw [if_pos h1] at h; exact absurd h h1
 ·rw [if_neg h1] at h
  by_cases h2 : (L.map (·.1)).Nodup
  ·exact ⟨by simpa using h1, h2⟩
  ·rw [if_neg h2] at h; cases h
end Go.Proofs.YthcgihgajdjfoaaGreatDoor
