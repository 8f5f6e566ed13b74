/- What the claim needs of: SY. -/
import Derived.Test.YthcgihgajdjfoaaGreatDoorV47
import Derived.Shelf.SlSortCmp.PdqK
namespace Go.Proofs.YthcgihgajdjfoaaGreatDoor
open Go.RowKit Go.Sort Go.Shelf
def Bls (n bs : Nat) (d : Array Iss) : Prop := ∀ j, SortedIn (ltOf icmp) (j * bs) (min (j * bs + bs) n) d
def Mix (n bs t A : Nat) (d : Array Iss) : Prop := A = t * (2 * bs) ∧ (∀ j, j < t → SortedIn (ltOf icmp) (j * (2 * bs)) (j * (2 * bs) + 2 * bs) d) ∧ ∀ j, 2 * t ≤ j → SortedIn (ltOf icmp) (j * bs) (min (j * bs + bs) n) d
theorem Mix.start {n bs : Nat} {d : Array Iss} (h : Bls n bs d) : Mix n bs 0 0 d := ⟨by omega, fun j hj => by omega, fun j _ => h j⟩
theorem two_mul_bs (t bs : Nat) : 2 * t * bs = t * (2 * bs) := by rw [Nat.mul_comm 2 t, Nat.mul_assoc]
theorem Mix.left {n bs t A : Nat} {d : Array Iss} (h : Mix n bs t A d) : SortedIn (ltOf icmp) A (min (A + bs) n) d := by
 have := h.2.2 (2 * t) (Nat.le_refl _)
 rw [two_mul_bs, ← h.1] at this
 exact this
theorem Mix.right {n bs t A : Nat} {d : Array Iss} (h : Mix n bs t A d) : SortedIn (ltOf icmp) (A + bs) (min (A + bs + bs) n) d := by
 have := h.2.2 (2 * t + 1) (by omega)
 rw [Nat.add_mul, two_mul_bs, ← h.1, Nat.one_mul] at this
 exact this
theorem sorted_kept {d d' : Array Iss} {a b x y : Nat} (p : PermIn a b d d') (h : SortedIn (ltOf icmp) x y d) (hn : y ≤ a ∨ b ≤ x) : SortedIn (ltOf icmp) x y d' := fun i j hi hij hj => by
 rw [p.2.1 i (by omega), p.2.1 j (by omega)]
 exact h i j hi hij hj
theorem mul_le_of {j t q : Nat} (h : j < t) : j * q + q ≤ t * q := by
 have := Nat.mul_le_mul_right q (show j + 1 ≤ t from h)
 rwa [Nat.add_mul, Nat.one_mul] at this
theorem Mix.next {n bs t A : Nat} {d d' : Array Iss} (h : Mix n bs t A d) (p : PermIn A (A + 2 * bs) d d') (s : SortedIn (ltOf icmp) A (A + 2 * bs) d') : Mix n bs (t + 1) (A + 2 * bs) d' := by
 refine ⟨by rw [Nat.add_mul, Nat.one_mul, ← h.1], fun j hj => ?_, fun j hj => ?_⟩
 ·by_cases e : j = t
  ·subst e
   rw [← h.1]
   exact s
  ·have := mul_le_of (q := 2 * bs) (show j < t by omega)
   rw [← h.1] at this
   exact sorted_kept p (h.2.1 j (by omega)) (.inl this)
 ·have h1 := Nat.mul_le_mul_right bs (show 2 * t + 2 ≤ j by omega)
  rw [Nat.add_mul, two_mul_bs, ← h.1] at h1
  exact sorted_kept p (h.2.2 j (by omega)) (.inr h1)
theorem Mix.last {n bs t A : Nat} {d d' : Array Iss} (h : Mix n bs t A d) (hn : n < A + 2 * bs) (hA : A ≤ n) (p : PermIn A n d d') (s : SortedIn (ltOf icmp) A n d') : Bls n (2 * bs) d' := by
 intro j
 by_cases e : j = t
 ·subst e
  rw [← h.1, Nat.min_eq_right (by omega)]
  exact s
 ·by_cases hj : j < t
  ·have := mul_le_of (q := 2 * bs) hj
   rw [← h.1] at this
   rw [Nat.min_eq_left (by omega)]
   exact sorted_kept p (h.2.1 j hj) (.inl this)
  ·have := mul_le_of (q := 2 * bs) (show t < j by omega)
   rw [← h.1] at this
   intro x y hx hxy hy
   omega
theorem Bls.done {n bs : Nat} {d : Array Iss} (h : Bls n bs d) (hn : n ≤ bs) : SortedIn (ltOf icmp) 0 n d := by
 have := h 0
 rw [Nat.zero_mul, Nat.zero_add, Nat.min_eq_right hn] at this
 exact this
def Fst (t A : Nat) (d : Array Iss) : Prop := A = t * 20 ∧ ∀ j, j < t → SortedIn (ltOf icmp) (j * 20) (j * 20 + 20) d
theorem Fst.next {t A : Nat} {d d' : Array Iss} (h : Fst t A d) (p : PermIn A (A + 20) d d') (s : SortedIn (ltOf icmp) A (A + 20) d') : Fst (t + 1) (A + 20) d' := by
 refine ⟨by have := h.1; omega, fun j hj => ?_⟩
 by_cases e : j = t
 ·subst e; rw [← h.1]; exact s
 ·exact sorted_kept p (h.2 j (by omega)) (.inl (by have := h.1; omega))
theorem Fst.last {n t A : Nat} {d d' : Array Iss} (h : Fst t A d) (hn : n < A + 20) (hA : A ≤ n) (p : PermIn A n d d') (s : SortedIn (ltOf icmp) A n d') : Bls n 20 d' := by
 intro j
 have h1 := h.1
 by_cases e : j = t
 ·subst e
  rw [← h.1, Nat.min_eq_right (by omega)]
  exact s
 ·by_cases hj : j < t
  ·rw [Nat.min_eq_left (by omega)]
   exact sorted_kept p (h.2 j hj) (.inl (by omega))
  ·intro x y hx hxy hy
   omega
set_option maxRecDepth 100000 in
set_option maxHeartbeats 8000000 in
theorem stableL_any (g : Nat) (eg : ∀ args w, (callFunc g args).run Tryz.prog w = .ok (.enter g args) w) (hcmp : ∀ x y W, Calls Tryz.prog g #[.agg (encI x).toArray, .agg (encI y).toArray] W fun e w' => e = .returned (.int .i64 (icmp x y)) ∧ BelowD W.heap.size W w')
  (blk off cap : Nat) (d0 : Array Iss) (w0 : World) (R : RowK encI 2 w0 blk off d0) (hsz : d0.size ≤ 1048576) :
  Calls Tryz.prog 92 #[.slice (some ⟨blk, off, none⟩) d0.size cap, .int .i64 d0.size, .func (.func g) #[] #[]] w0 fun e w' => e = .returned (.tuple #[]) ∧ ∃ d', d'.size = d0.size ∧ SortedIn (ltOf icmp) 0 d0.size d' ∧ PermIn 0 d0.size d0 d' ∧ SWI w0 blk off d' w' := by
 have cM := Lib.hid (symMerge_any g eg hcmp blk off cap d0 w0 R hsz)
 have HC : Hid (CmpLays Tryz.prog g #[] encI 2 icmp blk off d0.size w0) := fun m os dk _ x y => (hcmp x y _).mono fun e w' ⟨h1, h2⟩ => ⟨h1, grow_of_belowD h2⟩
 have cI : Hid (∀ (a b : Nat) (d : Array Iss) (W : World), SWI w0 blk off d W → d.size = d0.size → a ≤ b → b ≤ d0.size → Calls Tryz.prog 135 #[.slice (some ⟨blk, off, none⟩) d0.size cap, .int .i64 a, .int .i64 b, .func (.func g) #[] #[]] W fun e w' => e = .returned (.tuple #[]) ∧ ∃ d', d'.size = d0.size ∧ SortedIn (ltOf icmp) a b d' ∧ PermIn a b d d' ∧ SWI w0 blk off d' w') := fun a b d W S hs hab hb => by
  have h := AnyQ.insertionSortCmpFunc_w Tryz.insI 2 Tryz.isAgg67 Tryz.sizeOf67 encI icmp g #[] blk off cap a b d0 d w0 W eg HC.out R hs.symm S ilt_swo hab (by omega) (by omega)
  rw [hs] at h
  have hh := insertionSort_holds (lt := ltOf icmp) ilt_swo d a b hab (by omega)
  exact h.mono fun e w' ⟨h1, h2⟩ => ⟨h1, _, hh.1.1.trans hs, hh.2, hh.1, h2⟩
 have HS0 := Lib.hid (SWK.start R.hH)
 clear hcmp HC eg
 have hn1 : ¬ (d0.size : Int) < 0 := by omega
 go_enter Tryz.func92, Tryz.ntmps92
 go_wp2
 go_loopw [7, 8] (fun va vb wr => ∃ (t A : Nat) (d : Array Iss), va = .int .i64 (A : Nat) ∧ vb = .int .i64 ((A : Int) + 20) ∧ A ≤ d0.size ∧ d.size = d0.size ∧ Hid (Fst t A d ∧ PermIn 0 d0.size d0 d) ∧ Hid (SWI w0 blk off d wr)) (fun va _ _ => d0.size - (intOf va).toNat)
 case atStart => exact ⟨0, 0, d0, rfl, rfl, Nat.zero_le _, rfl, Lib.hid ⟨⟨by omega, fun j hj => by omega⟩, permIn_refl _ _ _⟩, HS0⟩
 case round =>
  obtain ⟨t, A, d, rfl, rfl, hA, hds, HP, HS⟩ := hrel
  by_cases hlt : A + 20 ≤ d0.size
  ·have hlt' : (A : Int) + 20 ≤ (d0.size : Int) := by omega
   have wb : IntKind.i64.wrap ((A : Int) + 20 + 20) = (A : Int) + 20 + 20 := by rw [IntKind.wrap_i64]; omega
   have c1 := Lib.hid (cI.out A (A + 20) d wr HS.out hds (by omega) hlt)
   rw [show ((A + 20 : Nat) : Int) = (A : Int) + 20 by omega] at c1
   go_wp2_with fail
   refine c1.out.mono ?_
   rintro e w2 ⟨rfl, d', h0, h1, h2, h3⟩
   have HN := Lib.hid (And.intro (HP.out.1.next h2 h1) (permIn_trans _ _ _ _ _ HP.out.2 (permIn_mono _ _ _ _ _ _ (by omega) (by omega) (by omega) h2)))
   have H3 := Lib.hid h3
   clear h1 h2 h3 c1
   go_wp2
   go_roundw
   case rel => exact ⟨t + 1, A + 20, d', by first | rfl | go_num, by first | rfl | go_num, hlt, h0, HN, H3⟩
   case measure => simp [intOf]; omega
  ·have hlt' : ¬ (A : Int) + 20 ≤ (d0.size : Int) := by omega
   have c1 := Lib.hid (cI.out A d0.size d wr HS.out hds hA (Nat.le_refl _))
   go_wp2_with fail
   refine c1.out.mono ?_
   rintro e w2 ⟨rfl, d', h0, h1, h2, h3⟩
   have HN := Lib.hid (And.intro (HP.out.1.last (by omega) hA h2 h1) (permIn_trans _ _ _ _ _ HP.out.2 (permIn_mono _ _ _ _ _ _ (by omega) (by omega) (by omega) h2)))
   have H3 := Lib.hid h3
   clear h1 h2 h3 c1 HP HS hlt hlt' hA hds
   go_wp2
   go_loopw [6] (fun vb wr => ∃ (bs : Nat) (d : Array Iss), vb = .int .i64 (bs : Nat) ∧ 20 ≤ bs ∧ bs ≤ 2097152 ∧ d.size = d0.size ∧ Hid (Bls d0.size bs d ∧ PermIn 0 d0.size d0 d) ∧ Hid (SWI w0 blk off d wr)) (fun vb _ => d0.size - (intOf vb).toNat)
   case atStart => exact ⟨20, d', rfl, Nat.le_refl _, by omega, h0, HN, H3⟩
   case round =>
    clear h0 HN H3
    obtain ⟨bs, d, rfl, hb20, hbm, hds, HP, HS⟩ := hrel
    by_cases hlt : bs < d0.size
    ·have hlt' : (bs : Int) < (d0.size : Int) := by omega
     have w2b : IntKind.i64.wrap (2 * (bs : Int)) = 2 * (bs : Int) := by rw [IntKind.wrap_i64]; omega
     have wb2 : IntKind.i64.wrap ((bs : Int) * 2) = 2 * (bs : Int) := by rw [IntKind.wrap_i64]; omega
     go_wp2
     go_loopw [7, 8] (fun va vb wr => ∃ (t A : Nat) (d : Array Iss), va = .int .i64 (A : Nat) ∧ vb = .int .i64 ((A : Int) + 2 * (bs : Int)) ∧ A ≤ d0.size ∧ d.size = d0.size ∧ Hid (Mix d0.size bs t A d ∧ PermIn 0 d0.size d0 d) ∧ Hid (SWI w0 blk off d wr)) (fun va _ _ => d0.size - (intOf va).toNat)
     case atStart => exact ⟨0, 0, d, rfl, by first | rfl | go_num | (congr 1; omega), Nat.zero_le _, hds, Lib.hid ⟨Mix.start HP.out.1, HP.out.2⟩, HS⟩
     case round =>
      clear HP HS hds
      obtain ⟨t, A, d, rfl, rfl, hA, hds, HP, HS⟩ := hrel
      have wm : IntKind.i64.wrap ((A : Int) + (bs : Int)) = (A : Int) + (bs : Int) := by rw [IntKind.wrap_i64]; omega
      by_cases hle : A + 2 * bs ≤ d0.size
      ·have hle' : (A : Int) + 2 * (bs : Int) ≤ (d0.size : Int) := by omega
       have wb : IntKind.i64.wrap ((A : Int) + 2 * (bs : Int) + 2 * (bs : Int)) = (A : Int) + 2 * (bs : Int) + 2 * (bs : Int) := by rw [IntKind.wrap_i64]; omega
       have c1 := Lib.hid (cM.out (2 * bs) A (A + bs) (A + 2 * bs) d wr (by omega) HS.out hds (by omega) (by omega) hle (by have := HP.out.1.left; rwa [Nat.min_eq_left (by omega)] at this) (by have := HP.out.1.right; rw [Nat.min_eq_left (by omega), show A + bs + bs = A + 2 * bs by omega] at this; exact this))
       rw [show ((A + bs : Nat) : Int) = (A : Int) + (bs : Int) by omega, show ((A + 2 * bs : Nat) : Int) = (A : Int) + 2 * (bs : Int) by omega] at c1
       go_wp2_with fail
       refine c1.out.mono ?_
       rintro e w4 ⟨rfl, d', h0, h1, h2, h3⟩
       have HN := Lib.hid (And.intro (HP.out.1.next h2 h1) (permIn_trans _ _ _ _ _ HP.out.2 (permIn_mono _ _ _ _ _ _ (by omega) (by omega) (by omega) h2)))
       have H3 := Lib.hid h3
       clear h1 h2 h3 c1
       go_wp2
       go_roundw
       case rel => exact ⟨t + 1, A + 2 * bs, d', by first | rfl | go_num, by first | rfl | go_num | (congr 1; omega), hle, h0, HN, H3⟩
       case measure => simp [intOf]; omega
      ·have hle' : ¬ (A : Int) + 2 * (bs : Int) ≤ (d0.size : Int) := by omega
       by_cases hm : A + bs < d0.size
       ·have hm' : (A : Int) + (bs : Int) < (d0.size : Int) := by omega
        have c1 := Lib.hid (cM.out (2 * bs) A (A + bs) d0.size d wr (by omega) HS.out hds (by omega) hm (Nat.le_refl _) (by have := HP.out.1.left; rwa [Nat.min_eq_left (by omega)] at this) (by have := HP.out.1.right; rwa [Nat.min_eq_right (by omega)] at this))
        rw [show ((A + bs : Nat) : Int) = (A : Int) + (bs : Int) by omega] at c1
        go_wp2_with fail
        refine c1.out.mono ?_
        rintro e w4 ⟨rfl, d', h0, h1, h2, h3⟩
        have HN := Lib.hid (And.intro (HP.out.1.last (by omega) hA h2 h1) (permIn_trans _ _ _ _ _ HP.out.2 (permIn_mono _ _ _ _ _ _ (by omega) (by omega) (by omega) h2)))
        have H3 := Lib.hid h3
        clear h1 h2 h3 c1
        go_wp2
        go_roundw
        case rel => exact ⟨2 * bs, d', by first | rfl | go_num, by omega, by omega, h0, HN, H3⟩
        case measure => simp [intOf]; omega
       ·have hm' : ¬ (A : Int) + (bs : Int) < (d0.size : Int) := by omega
        have HN := Lib.hid (And.intro (HP.out.1.last (by omega) hA (permIn_refl _ _ _) (by have := HP.out.1.left; rwa [Nat.min_eq_right (by omega)] at this)) HP.out.2)
        go_wp2
        go_roundw
        case rel => exact ⟨2 * bs, d, by first | rfl | go_num, by omega, by omega, hds, HN, HS⟩
        case measure => simp [intOf]; omega
    ·have hlt' : ¬ (bs : Int) < (d0.size : Int) := by omega
     go_wp2
     first | go_end0 | refine bodyPost_ret (results_none rfl _ _ _) rfl ?_
     exact ⟨rfl, d, hds, HP.out.1.done (by omega), HP.out.2, HS.out⟩
def sortCap2 : Nat := 1048576
theorem stableI2_any (g : Nat) (eg : ∀ args w, (callFunc g args).run Tryz.prog w = .ok (.enter g args) w) (hcmp : ∀ x y W, Calls Tryz.prog g #[.agg (encI x).toArray, .agg (encI y).toArray] W fun e w' => e = .returned (.int .i64 (icmp x y)) ∧ BelowD W.heap.size W w')
  (v : Value) (l : List Iss) (w : World) (base : Nat) (h : NewRowK w base 67 2 encI v l) (hl : l.length ≤ sortCap2) :
  Calls Tryz.prog 92 #[v, .int .i64 (l.length : Nat), .func (.func g) #[] #[]] w (SortedTo w base 2 encI (ltOf icmp) v l) := by
 by_cases hc : l.length ≤ sortCap
 ·exact stableI_any g eg hcmp v l w base h hc
 rcases h with ⟨rfl, A, c, rfl⟩ | ⟨hv, h⟩
 ·exact absurd (Nat.zero_le _) hc
 ·have hcap : ∀ A n c, v = .slice A n c → l.length ≤ c := by
   rcases h.2 with ⟨rfl, _⟩ | ⟨g, cap, cur, rfl, _, _, hc, _⟩
   ·exact absurd rfl hv
   ·intro A n c e
    injection e with _ _ e3
    omega
  obtain ⟨g', cap, rfl, hbase, hlt, hH⟩ := holdsK_of_owns encI_len h hv
  have hq := stableL_any g eg hcmp g' 0 cap l.toArray w ⟨encI_len, encI_one1, hH, hlt⟩ (by simpa [sortCap2] using hl)
  rw [List.size_toArray] at hq
  refine hq.mono ?_
  rintro e w' ⟨rfl, d', hsz, hs, hp, n, os, rfl⟩
  refine ⟨rfl, ⟨_, _, d'.toList, rfl, hcap _ _ _ rfl, perm_of_permIn (by simpa using hp), pairwise_of_sortedIn hs (by simpa using hsz), ?_⟩, below_sortWorldK hbase hlt⟩
  refine sl_of_holdsK encI_len (l := d'.toList) (by have := holdsK_sortWorldK_c encI 2 w g' 0 l.toArray d' n os hH hlt (by simpa using hsz); simpa using this) ?_
  exact Nat.lt_of_lt_of_le hlt (size_sortWorldK_c encI 2 w g' 0 n _ os)
set_option maxRecDepth 100000 in
theorem sortI2_any (g : Nat) (eg : ∀ args w, (callFunc g args).run Tryz.prog w = .ok (.enter g args) w) (hcmp : ∀ x y W, Calls Tryz.prog g #[.agg (encI x).toArray, .agg (encI y).toArray] W fun e w' => e = .returned (.int .i64 (icmp x y)) ∧ BelowD W.heap.size W w')
  (v : Value) (l : List Iss) (w : World) (base : Nat) (h : NewRowK w base 67 2 encI v l) (hl : l.length ≤ sortCap2) :
  Calls Tryz.prog 44 #[v, .func (.func g) #[] #[]] w (SortedTo w base 2 encI (ltOf icmp) v l) := by
 have cI := Lib.hid (stableI2_any g eg hcmp v l w base h hl)
 obtain ⟨A, c, rfl, hlc⟩ := h.slice
 generalize hQ : SortedTo w base 2 encI (ltOf icmp) (.slice A l.length c) l = Q at cI
 have HQ := Lib.hid hQ
 clear hQ hcmp eg h hl
 go_enter Tryz.func44, Tryz.ntmps44
 go_wp2_with fail
 refine cI.out.mono ?_
 intro e w2 hq
 have HQ2 := Lib.hid hq
 have hr : e = .returned (.tuple #[]) := by
  have h := HQ2.out
  rw [← HQ.out] at h
  exact h.1
 subst hr
 clear hq cI
 go_wp2
 go_end0
 exact HQ2.out
theorem sortsI_many : SortsI sortCap2 := sortI2_any
end Go.Proofs.YthcgihgajdjfoaaGreatDoor
