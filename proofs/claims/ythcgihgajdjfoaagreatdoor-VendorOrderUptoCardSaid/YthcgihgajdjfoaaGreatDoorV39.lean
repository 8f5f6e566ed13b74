/- What the claim needs of: VC IC IN. -/
import Derived.Test.YthcgihgajdjfoaaGreatDoorV12
import Derived.Test.YthcgihgajdjfoaaGreatDoorV34
import Derived.Test.YthcgihgajdjfoaaGreatDoorV21
import Derived.Test.YthcgihgajdjfoaaGreatDoorV28
import Derived.Test.YthcgihgajdjfoaaGreatDoorV11
import Derived.Test.YthcgihgajdjfoaaGreatDoorV9
import Derived.Test.YthcgihgajdjfoaaGreatDoorV26
import Derived.Test.YthcgihgajdjfoaaGreatDoorV38
namespace Go.Proofs.YthcgihgajdjfoaaGreatDoor
open Go.RowKit Go.Sort
def RetLk (w : World) (r : List UInt8 × Int) (e : Ending) (w' : World) : Prop := e = .returned (.tuple #[.string ⟨r.1.toArray⟩, .int .i64 r.2]) ∧ Below w.heap.size w w'
theorem rerr_zero {r : Rel} (h : rerr r = 0) : mcheck r.1 r.2.1 = 0 ∧ dupN r.2.2 = false := by
 unfold rerr at h
 by_cases hm : mcheck r.1 r.2.1 = 0
 ·rw [if_neg (by simpa using hm)] at h
  refine ⟨hm, ?_⟩
  cases hd : dupN r.2.2 with
  | false => rfl
  | true => rw [hd] at h; simp at h
 ·rw [if_pos hm] at h
  exact absurd h hm
theorem rline_len {r : Rel} (h : rerr r = 0) : (rline r).length ≤ 100 := by
 have h1 := (mcheck_ok r.1 r.2.1 (rerr_zero h).1).2 r.1 (by simp)
 have h2 := vtext_len r.1.2.1 r.1.2.2.1 r.1.2.2.2
 have h3 := rtext_len r
 unfold rline
 simp only [List.length_append, List.length_singleton]
 omega
theorem lout_mem {L : List Rel} {x : List UInt8} (hx : x ∈ lout L) : ∃ r ∈ L, rerr r = 0 ∧ x = rline r := by
 unfold lout at hx
 by_cases h : lerr L = 0
 ·rw [if_pos h] at hx
  obtain ⟨e, he, rfl⟩ := List.mem_map.1 hx
  unfold esort at he
  obtain ⟨r, hr, rfl⟩ := List.mem_map.1 ((List.mergeSort_perm _ _).mem_iff.1 he)
  exact ⟨r, hr, ferr_zero L (lerr_zero L h).1 r hr, rfl⟩
 ·rw [if_neg h] at hx
  cases hx
theorem lout_small (L : List Rel) : ∀ x ∈ lout L, x.length ≤ 100 := fun x hx => by
 obtain ⟨r, _, h, rfl⟩ := lout_mem hx
 exact rline_len h
theorem lout_le (L : List Rel) : (lout L).length ≤ L.length := by
 by_cases h : lerr L = 0
 ·rw [lout_len L h]; exact Nat.le_refl _
 ·rw [lout_ne L h]; exact Nat.zero_le _
theorem nlL_take (X : List (List UInt8)) {k : Nat} (h : k < X.length) : nlL (X.take (k + 1)) = nlL (X.take k) ++ (X[k] ++ [10]) := by
 unfold nlL
 rw [List.take_succ_eq_append_getElem h, List.flatMap_append]
 simp
theorem nlL_len : ∀ X : List (List UInt8), (∀ x ∈ X, x.length ≤ 100) → (nlL X).length ≤ 101 * X.length
 | [], _ => by simp [nlL]
 | x :: X, h => by
   have h1 := h x (by simp)
   have h2 := nlL_len X fun y hy => h y (by simp [hy])
   have e : nlL (x :: X) = x ++ [10] ++ nlL X := by simp [nlL]
   rw [e]
   simp only [List.length_append, List.length_cons, List.length_nil]
   omega
set_option maxRecDepth 100000 in
set_option maxHeartbeats 4000000 in
theorem Lock_any (A : Option Addr) (c : Nat) (L : List RelA) (w : World) (hA : Sl w w.heap.size 6 encR A L) (hok : ∀ r ∈ L, RelOk w r) (hG : Glob w) (hl : L.length ≤ 1000) :
  Calls Tryz.prog 17 #[.slice A L.length c] w (RetLk w (lockP (L.map RelA.rel))) := by
 have cL0 := List_any A c L w hA hok (by omega) hG
 have hlen : (lout (L.map RelA.rel)).length ≤ 1000 := Nat.le_trans (lout_le _) (by simpa using hl)
 have HSm := Lib.hid (lout_small (L.map RelA.rel))
 have HP := Lib.hid (show lockP (L.map RelA.rel) = if lerr (L.map RelA.rel) ≠ 0 then ([], lerr (L.map RelA.rel)) else (nlL (lout (L.map RelA.rel)), 0) from rfl)
 generalize lerr (L.map RelA.rel) = er at cL0 HP
 generalize lout (L.map RelA.rel) = X at cL0 HP HSm hlen
 have cL := Lib.hid cL0
 generalize lockP (L.map RelA.rel) = r at HP
 obtain ⟨r1, r2⟩ := r
 clear cL0
 go_enter Tryz.func17, Tryz.ntmps17
 go_wp2_with fail
 refine cL.out.mono ?_
 rintro e w1 ⟨A1, c1, rfl, hS, hb1, _⟩
 have HS := Lib.hid hS
 have HB := Lib.hid hb1
 clear hS hb1 cL
 by_cases he : er = 0
 ·subst he
  obtain ⟨rfl, rfl⟩ : r1 = nlL X ∧ r2 = 0 := by have h := HP.out; simp at h; exact h
  clear HP
  go_wp2_with fail
  go_loopw [6, 19] (fun v i wr => ∃ k : Nat, k ≤ X.length ∧ i = .int .i64 (k : Nat) ∧ v = .string ⟨(nlL (X.take k)).toArray⟩ ∧ wr = w1) (fun _ i _ => X.length - (intOf i).toNat)
  case atStart => exact ⟨0, Nat.zero_le _, rfl, rfl, rfl⟩
  case round =>
   obtain ⟨k, hk, rfl, rfl, rfl⟩ := hrel
   by_cases hlt : k < X.length
   ·have hlt' : (k : Int) < (X.length : Int) := by omega
    obtain ⟨b, off, hA1, hbB, g0⟩ := HS.out.str hlt
    have HN := Lib.hid (nlL_take X hlt)
    have hx := HSm.out X[k] (List.getElem_mem hlt)
    have hn := nlL_len (X.take k) (fun x hx => HSm.out x (List.mem_of_mem_take hx))
    have htk : (X.take k).length ≤ 1000 := by rw [List.length_take]; omega
    generalize X[k] = x at g0 HN hx
    generalize nlL (X.take k) = y at HN hn ⊢
    subst hA1
    have h1 : x.length + 1 ≤ maxLen := by unfold maxLen; omega
    have h2 : y.length + (x.length + 1) ≤ maxLen := by unfold maxLen; omega
    go_wp2
    go_roundw
    case rel => exact ⟨k + 1, by omega, by go_num, by rw [HN.out]; simp [ByteArray.mk_append_mk], by first | rfl | trivial⟩
    case measure => first | (simp [intOf]; done) | (simp [intOf]; omega)
   ·obtain rfl : k = X.length := by omega
    rw [List.take_length]
    go_wp2
    refine bodyPost_ret (v := .tuple #[.string ⟨(nlL X).toArray⟩, .int .i64 0]) (by simp [results, Tryz.results17, go_sem]) rfl ⟨rfl, HB.out⟩
 ·obtain ⟨rfl, rfl⟩ : r1 = [] ∧ r2 = er := by have h := HP.out; simp [he] at h; exact h
  have hen : (r2 == 0) = false := by simpa using he
  clear HP he
  go_wp2
  refine bodyPost_ret (v := .tuple #[.string ⟨([] : List UInt8).toArray⟩, .int .i64 r2]) (by simp [results, Tryz.results17, go_sem]) rfl ⟨rfl, HB.out⟩
end Go.Proofs.YthcgihgajdjfoaaGreatDoor
namespace Go.Proofs.YthcgihgajdjfoaaGreatDoor
open Go.RowKit Go.Sort Go.Lib
theorem cut_mem : ∀ (l : List UInt8) (c : UInt8), c ∈ l → c = 47 ∨ ∃ x ∈ splitL 47 l, c ∈ x
 | [], c, h => by simp at h
 | b :: l, c, h => by
   have hne := splitL_ne 47 l
   unfold splitL
   by_cases hb : b = 47
   ·rw [if_pos hb]
    rcases List.mem_cons.1 h with rfl | h
    ·exact .inl hb
    ·rcases cut_mem l c h with h | ⟨x, hx, hc⟩
     ·exact .inl h
     ·exact .inr ⟨x, List.mem_cons_of_mem _ hx, hc⟩
   ·rw [if_neg hb]
    split
    ·rename_i e
     rcases List.mem_cons.1 h with rfl | h
     ·exact .inr ⟨_, List.mem_cons_self .., List.mem_cons_self ..⟩
     ·rcases cut_mem l c h with h | ⟨x, hx, hc⟩
      ·exact .inl h
      ·rw [e] at hx
       rcases List.mem_cons.1 hx with rfl | hx
       ·exact .inr ⟨_, List.mem_cons_self .., List.mem_cons_of_mem _ hc⟩
       ·exact .inr ⟨x, List.mem_cons_of_mem _ hx, hc⟩
    ·rename_i e
     exact absurd e hne
theorem piece_chars {x : List UInt8} (h : partOk x = true) : ∀ c ∈ x, c ≠ 32 ∧ c ≠ 10 := by
 intro c hc
 obtain ⟨i, hi, rfl⟩ := List.mem_iff_getElem.1 hc
 unfold partOk partK at h
 rw [Bool.and_eq_true, List.all_eq_true] at h
 have h1 := h.1 i (List.mem_range.2 hi)
 rw [List.getD_eq_getElem?_getD, List.getElem?_eq_getElem hi, Option.getD_some] at h1
 generalize x[i] = c at h1
 constructor
 ·rintro rfl
  simp [pok, lowc, othc] at h1
 ·rintro rfl
  simp [pok, lowc, othc] at h1
theorem pathCh {p : List UInt8} (h : pathOk p = true) : ∀ c ∈ p, c ≠ 32 ∧ c ≠ 10 := by
 unfold pathOk at h
 rw [Bool.and_eq_true, List.all_eq_true] at h
 intro c hc
 rcases cut_mem p c hc with rfl | ⟨x, hx, hcx⟩
 ·decide
 ·exact piece_chars (h.2 x hx) c hcx
theorem verCh {x y z : Int} (h : vok x y z = true) : ∀ c ∈ vtext x y z, c ≠ 32 ∧ c ≠ 10 := by
 rw [vtext_ok h]
 intro c hc
 obtain ⟨a, b, e, rfl, rfl, rfl, _⟩ := vok_nat h
 simp only [dec_nat] at hc
 have hd : (∃ n : Nat, c ∈ decDigits n) ∨ c = 118 ∨ c = 46 := by
  simp only [List.mem_cons, List.mem_append] at hc
  rcases hc with h | h | h | h | h | h
  ·exact .inr (.inl h)
  ·exact .inl ⟨_, h⟩
  ·exact .inr (.inr h)
  ·exact .inl ⟨_, h⟩
  ·exact .inr (.inr h)
  ·exact .inl ⟨_, h⟩
 rcases hd with ⟨n, hn⟩ | rfl | rfl
 ·have := dec_digit n c hn
  refine ⟨?_, ?_⟩ <;> (rintro rfl; simp at this)
 ·decide
 ·decide
theorem sumCh {s : List UInt8} (h : pOk s = true) : ∀ c ∈ s, c ≠ 32 ∧ c ≠ 10 := by
 unfold pOk at h
 rw [Bool.and_eq_true, Bool.and_eq_true, decide_eq_true_iff, decide_eq_true_iff, List.all_eq_true] at h
 intro c hc
 rw [← List.take_append_drop 2 s] at hc
 rcases List.mem_append.1 hc with hc | hc
 ·rw [h.1.2] at hc
  simp at hc
  rcases hc with rfl | rfl <;> decide
 ·have := h.2 c hc
  constructor <;> (rintro rfl; revert this; decide)
theorem splitL_mid (b : UInt8) (y : List UInt8) : ∀ x : List UInt8, (∀ c ∈ x, c ≠ b) → splitL b (x ++ b :: y) = x :: splitL b y
 | [], _ => by simp [splitL]
 | c :: x, h => by
   have ih := splitL_mid b y x fun d hd => h d (by simp [hd])
   have hc : ¬ c = b := h c (by simp)
   rw [List.cons_append, splitL, if_neg hc, ih]
theorem splitL_one (b : UInt8) : ∀ x : List UInt8, (∀ c ∈ x, c ≠ b) → splitL b x = [x]
 | [], _ => rfl
 | c :: x, h => by
   have ih := splitL_one b x fun d hd => h d (by simp [hd])
   have hc : ¬ c = b := h c (by simp)
   rw [splitL, if_neg hc, ih]
def okMod2 (m : Mod) : Prop := pathOk m.1 = true ∧ vok m.2.1 m.2.2.1 m.2.2.2 = true
theorem okMod2_of {m : Mod} {l : List Mod} (h : mcheck m l = 0) : okMod2 m := by
 have := ((mcheck_iff m l).1 h).1 m (by simp)
 exact ⟨by simpa [badPath] using this.1, by simpa [badVer] using this.2⟩
theorem rtext_ok {r : Rel} (h : rerr r = 0) : pOk (rtext r) = true := by
 unfold rtext
 rw [if_pos h]
 exact pOk_dtext _
theorem rline_chars {r : Rel} (h : rerr r = 0) : ∀ c ∈ rline r, c ≠ 10 := by
 obtain ⟨h1, h2⟩ := okMod2_of (rerr_zero h).1
 intro c hc
 unfold rline at hc
 simp only [List.mem_append, List.mem_singleton] at hc
 rcases hc with (((hc | hc) | hc) | hc) | hc
 ·exact (pathCh h1 c hc).2
 ·rw [hc]; decide
 ·exact (verCh h2 c hc).2
 ·rw [hc]; decide
 ·exact (sumCh (rtext_ok h) c hc).2
def entR (r : Rel) : EntV := (r.1, rtext r)
theorem rline_entry {r : Rel} (h : rerr r = 0) : entryP (rline r) = some (entR r) := by
 obtain ⟨h1, h2⟩ := okMod2_of (rerr_zero h).1
 have e : splitL 32 (rline r) = [r.1.1, vtext r.1.2.1 r.1.2.2.1 r.1.2.2.2, rtext r] := by
  have e0 : rline r = r.1.1 ++ 32 :: (vtext r.1.2.1 r.1.2.2.1 r.1.2.2.2 ++ 32 :: rtext r) := by simp [rline]
  rw [e0, splitL_mid 32 _ _ fun c hc => (pathCh h1 c hc).1, splitL_mid 32 _ _ fun c hc => (verCh h2 c hc).1, splitL_one 32 _ fun c hc => (sumCh (rtext_ok h) c hc).1]
 have hv := vparse_text h2
 unfold entryP
 rw [e]
 simp only
 rw [if_pos ⟨h1, by unfold verr; rw [hv]; rfl, by unfold presE; rw [if_pos (rtext_ok h)]⟩]
 unfold vver entR
 rw [hv]
 rfl
theorem nlL_split : ∀ X : List (List UInt8), (∀ x ∈ X, ∀ c ∈ x, c ≠ 10) → splitL 10 (nlL X) = X ++ [[]]
 | [], _ => rfl
 | x :: X, h => by
   have e : nlL (x :: X) = x ++ 10 :: nlL X := by simp [nlL]
   rw [e, splitL_mid 10 _ _ (h x (by simp)), nlL_split X fun y hy => h y (by simp [hy])]
   rfl
theorem unlL_lines : ∀ (R : List Rel) (out : List EntV), (∀ r ∈ R, rerr r = 0) → (out.map (·.1) ++ R.map (·.1)).Pairwise (fun a b => mcmp a b < 0) → unlL out (R.map rline ++ [[]]) = (out ++ R.map entR, 0, 0)
 | [], out, _, _ => by simp [unlL]
 | r :: R, out, h, hp => by
   have ht : ∃ y t, R.map rline ++ [[]] = y :: t := by
    cases R with
    | nil => exact ⟨_, _, rfl⟩
    | cons a R => exact ⟨_, _, rfl⟩
   obtain ⟨y, t, hy⟩ := ht
   have hf : fitsE out (entR r) = true := by
    unfold fitsE
    cases hl : out.getLast? with
    | none => rfl
    | some z =>
      simp only [decide_eq_true_eq]
      rw [List.pairwise_append] at hp
      exact hp.2.2 z.1 (List.mem_map.2 ⟨z, List.mem_of_getLast? hl, rfl⟩) r.1 (by simp)
   rw [List.map_cons, List.cons_append, hy]
   unfold unlL
   rw [rline_entry (h r (by simp))]
   simp only
   rw [if_pos hf, ← hy, unlL_lines R (out ++ [entR r]) (fun q hq => h q (by simp [hq])) (by simpa [entR] using hp)]
   simp
def rcmp (a b : Rel) : Int := mcmp a.1 b.1
def rsort (L : List Rel) : List Rel := L.mergeSort fun x y => !(ltOf rcmp) y x
theorem rlt_eq (a b : Rel) : ltOf rcmp a b = ltOf mcmp a.1 b.1 := rfl
theorem rsort_perm (L : List Rel) : (rsort L).Perm L := List.mergeSort_perm L _
theorem rsort_sorted (L : List Rel) : (rsort L).Pairwise fun a b => ltOf mcmp b.1 a.1 = false := by
 have hto : ∀ a b : Rel, ((!(ltOf rcmp) b a) || (!(ltOf rcmp) a b)) = true := fun a b => by
  rw [rlt_eq, rlt_eq]
  cases hab : (ltOf mcmp) a.1 b.1
  ·simp
  ·have := le_of_lt mlt_swo hab
   unfold leOf at this
   simp [this]
 have htr : ∀ a b c : Rel, (!(ltOf rcmp) b a) = true → (!(ltOf rcmp) c b) = true → (!(ltOf rcmp) c a) = true := fun a b c h1 h2 => by
  rw [rlt_eq] at *
  simp at *; exact mlt_swo.ntrans c.1 b.1 a.1 h2 h1
 exact (List.pairwise_mergeSort htr hto L).imp fun h => by rw [rlt_eq] at h; simpa using h
theorem lout_rsort {L : List Rel} (h : lerr L = 0) : lout L = (rsort L).map rline := by
 obtain ⟨_, hn⟩ := lerr_nodup h
 have h1 : (rsort L).map entOf = (L.map entOf).mergeSort fun x y => !(ltOf ecmp) y x := by
  refine keyed_unique (f := fun x : Ent => x.1) elt_swo elt_key ((rsort_perm L).map _) ?_ (by rw [ents_keys]; exact hn)
  rw [List.pairwise_map]
  exact rsort_sorted L
 unfold lout
 rw [if_pos h]
 show List.map (·.2) ((L.map entOf).mergeSort fun x y => !(ltOf ecmp) y x) = _
 rw [← h1, List.map_map]
 rfl
theorem rsort_asc {L : List Rel} (hn : (L.map (·.1)).Nodup) : ((rsort L).map (·.1)).Pairwise fun a b => mcmp a b < 0 := by
 have hn' : ((rsort L).map (·.1)).Nodup := ((rsort_perm L).map _).nodup_iff.2 hn
 have hs : ((rsort L).map (·.1)).Pairwise fun a b => ltOf mcmp b a = false := by rw [List.pairwise_map]; exact rsort_sorted L
 refine (hs.and hn').imp fun {a b} h => ?_
 obtain ⟨h1, h2⟩ := h
 have h3 : ¬ mcmp b a < 0 := by simpa [ltOf] using h1
 have h4 := mcmp_anti a b
 have h5 : mcmp a b ≠ 0 := fun h => h2 ((mcmp_eq a b).1 h)
 omega
theorem ferr_all : ∀ {L : List Rel}, ferr L = 0 → ∀ r ∈ L, rerr r = 0
 | [], _, r, hr => by cases hr
 | x :: L, h, r, hr => by
   unfold ferr at h
   by_cases h0 : rerr x = 0
   ·rw [if_pos h0] at h
    rcases List.mem_cons.1 hr with rfl | hr
    ·exact h0
    ·exact ferr_all h r hr
   ·rw [if_neg h0] at h
    exact absurd h h0
theorem ferr_allz : ∀ {L : List Rel}, (∀ r ∈ L, rerr r = 0) → ferr L = 0
 | [], _ => rfl
 | x :: L, h => by
   unfold ferr
   rw [if_pos (h x (by simp))]
   exact ferr_allz fun r hr => h r (by simp [hr])
theorem lerr_iff (L : List Rel) : lerr L = 0 ↔ (∀ r ∈ L, rerr r = 0) ∧ (L.map (·.1)).Nodup := by
 constructor
 ·intro h
  obtain ⟨h1, h2⟩ := lerr_nodup h
  exact ⟨ferr_all h1, h2⟩
 ·rintro ⟨h1, h2⟩
  unfold lerr
  rw [if_neg (by simp [ferr_allz h1]), if_pos h2]
theorem unlock_lock {L : List Rel} (h : lerr L = 0) (hl : L.length ≤ 600) : unlockP (nlL (lout L)) = ((rsort L).map entR, 0, 0) := by
 obtain ⟨h1, h2⟩ := (lerr_iff L).1 h
 have hr : ∀ r ∈ rsort L, rerr r = 0 := fun r hr => h1 r ((rsort_perm L).mem_iff.1 hr)
 have hlen := nlL_len (lout L) (lout_small L)
 have hlo := lout_le L
 have hm : 101 * (lout L).length ≤ 101 * 600 := Nat.mul_le_mul_left _ (by omega)
 unfold unlockP
 rw [if_neg (by omega), lout_rsort h, nlL_split _ (fun x hx => by
  obtain ⟨r, hr', rfl⟩ := List.mem_map.1 hx
  exact rline_chars (hr r hr'))]
 have := unlL_lines (rsort L) [] hr (by simpa using rsort_asc h2)
 simpa using this
theorem lockP_ok {L : List Rel} (h : lerr L = 0) : lockP L = (nlL (lout L), 0) := by unfold lockP; rw [if_neg (by simp [h])]
theorem lockP_bad {L : List Rel} (h : lerr L ≠ 0) : lockP L = ([], lerr L) := by unfold lockP; rw [if_pos h]
theorem clean_diff {L : List Rel} (hn : (L.map (·.1)).Nodup) : rdiffP L ((rsort L).map entR) = [] := by
 unfold rdiffP
 rw [List.append_eq_nil_iff, List.filterMap_eq_nil_iff, List.filterMap_eq_nil_iff]
 constructor
 ·intro e he
  obtain ⟨r, hr, rfl⟩ := List.mem_map.1 he
  unfold rdiffE entR
  simp only
  rw [findR_of hn ((rsort_perm L).mem_iff.1 hr)]
  simp
 ·intro r hr
  unfold rdiffR
  rw [if_pos]
  rw [List.map_map]
  exact List.mem_map.2 ⟨r, (rsort_perm L).mem_iff.2 hr, rfl⟩
theorem verify_lock {L : List Rel} (h : lerr L = 0) (hl : L.length ≤ 600) (rp : List UInt8) (rl : List Mod) : verifyP rp rl L (lockP L).1 = outR rp rl L := by
 unfold verifyP
 rw [lockP_ok h]
 simp only
 rw [unlock_lock h hl]
 simp only
 rw [clean_diff (lerr_nodup h).2]
 simp [h]
end Go.Proofs.YthcgihgajdjfoaaGreatDoor
namespace Go.Proofs.YthcgihgajdjfoaaGreatDoor
open Go.RowKit Go.Sort
def okE (e : EntV) : Prop := e.1.1.length ≤ 60 ∧ vok e.1.2.1 e.1.2.2.1 e.1.2.2.2 = true
theorem okI_small {x : Int} (h0 : 0 ≤ x) (h1 : x ≤ 9999) : okI x := by
 unfold okI
 simp [Lit.wf, IntKind.min, IntKind.max, IntKind.bits, IntKind.signed]
 omega
theorem okE.mod {e : EntV} (h : okE e) : okMod e.1 := by
 obtain ⟨h1, h2⟩ := h
 unfold vok at h2
 simp only [Bool.and_eq_true, decide_eq_true_eq] at h2
 exact ⟨by unfold maxLen; omega, okI_small h2.1.1.1 h2.1.1.2, okI_small h2.1.2.1 h2.1.2.2, okI_small h2.2.1 h2.2.2⟩
theorem entryP_ok {s : List UInt8} {e : EntV} (h : entryP s = some e) : okE e := by
 unfold entryP at h
 split at h
 ·rename_i a b c heq
  split at h
  ·rename_i hc
   injection h with h
   subst h
   obtain ⟨h1, h2, _⟩ := hc
   refine ⟨?_, ?_⟩
   ·unfold pathOk at h1
    simp only [Bool.and_eq_true, decide_eq_true_eq] at h1
    exact h1.1
   ·unfold verr at h2
    cases hv : vparse b with
    | none => rw [hv] at h2; cases h2
    | some v =>
      have := (vparse_some hv).2
      unfold vver
      rw [hv]
      exact this
  ·cases h
 ·cases h
theorem mcmp_trans {a b c : Mod} (h1 : mcmp a b < 0) (h2 : mcmp b c < 0) : mcmp a c < 0 := by
 have := mlt_swo.trans a b c (by unfold ltOf; exact decide_eq_true h1) (by unfold ltOf; exact decide_eq_true h2)
 unfold ltOf at this
 exact of_decide_eq_true this
theorem unl_inv : ∀ (ls : List (List UInt8)) (out : List EntV), (∀ e ∈ out, okE e) → (out.map (·.1)).Pairwise (fun a b => mcmp a b < 0) → (∀ e ∈ (unlL out ls).1, okE e) ∧ ((unlL out ls).1.map (·.1)).Pairwise (fun a b => mcmp a b < 0) ∧ (unlL out ls).1.length ≤ out.length + ls.length
 | [], out, h1, h2 => ⟨h1, h2, Nat.le_refl _⟩
 | [x], out, h1, h2 => by
   unfold unlL
   split
   ·exact ⟨h1, h2, Nat.le_succ _⟩
   ·exact ⟨by simp, by simp, by simp⟩
 | x :: y :: r, out, h1, h2 => by
   unfold unlL
   split
   ·rename_i e he
    split
    ·rename_i hf
     have hp : ((out ++ [e]).map (·.1)).Pairwise (fun a b => mcmp a b < 0) := by
      rw [List.map_append, List.pairwise_append]
      refine ⟨h2, by simp, fun a ha b hb => ?_⟩
      simp only [List.map_cons, List.map_nil, List.mem_singleton] at hb
      subst hb
      obtain ⟨z, hz, rfl⟩ := List.mem_map.1 ha
      unfold fitsE at hf
      cases hl : out.getLast? with
      | none =>
        rw [List.getLast?_eq_none_iff] at hl
        subst hl
        cases hz
      | some q =>
        rw [hl] at hf
        have hq : mcmp q.1 e.1 < 0 := by simpa using hf
        obtain ⟨pre, hpre⟩ : ∃ pre, out = pre ++ [q] := by
         rw [List.getLast?_eq_some_iff] at hl
         exact hl
        rw [hpre] at hz h2
        rcases List.mem_append.1 hz with h | h
        ·rw [List.map_append, List.pairwise_append] at h2
         exact mcmp_trans (h2.2.2 _ (List.mem_map.2 ⟨z, h, rfl⟩) q.1 (by simp)) hq
        ·rw [List.mem_singleton.1 h]
         exact hq
     obtain ⟨r1, r2, r3⟩ := unl_inv (y :: r) (out ++ [e]) (fun z hz => by
      rcases List.mem_append.1 hz with h | h
      ·exact h1 z h
      ·rw [List.mem_singleton.1 h]; exact entryP_ok he) hp
     refine ⟨r1, r2, ?_⟩
     have e1 : (out ++ [e]).length = out.length + 1 := by simp
     have e2 : (x :: y :: r).length = (y :: r).length + 1 := by simp
     omega
    ·exact ⟨by simp, by simp, by simp⟩
   ·exact ⟨by simp, by simp, by simp⟩
theorem unlock_inv (s : List UInt8) : (∀ e ∈ (unlockP s).1, okE e) ∧ ((unlockP s).1.map (·.1)).Nodup ∧ (unlockP s).1.length ≤ 100000 := by
 unfold unlockP
 split
 ·exact ⟨by simp, by simp, by simp⟩
 ·obtain ⟨h1, h2, h3⟩ := unl_inv (splitL 10 s) [] (by simp) (by simp)
  refine ⟨h1, h2.imp fun {a b} h => ?_, ?_⟩
  ·rintro rfl
   rw [mcmp_refl] at h
   cases h
  ·have := (splitL_len 10 s).1
   simp only [List.length_nil] at h3
   omega
set_option maxRecDepth 100000 in
set_option maxHeartbeats 8000000 in
theorem VerifyC_any {cap : Nat} (hsort : SortsI cap) (y0 : ManW) (A : Option Addr) (c : Nat) (L : List RelA) (s : List UInt8) (w : World) (h0 : ManS w y0) (hA : Sl w w.heap.size 6 encR A L) (hok : ∀ r ∈ L, RelM w r) (h0m : ∀ x ∈ y0.2.2.2, okMod x) (hl : L.length ≤ 100) (hs : s.length ≤ 140737488355327) (hG : Glob w)
  (hc1 : (rdiffP (L.map RelA.rel) (unlockP s).1).length ≤ cap) (hc2 : rdiffP (L.map RelA.rel) (unlockP s).1 = [] → (outR y0.1.1 y0.2.2.2 (L.map RelA.rel)).length ≤ cap) :
  Calls Tryz.prog 22 #[.agg #[.string ⟨y0.1.1.toArray⟩, .int .i64 y0.1.2.1, .int .i64 y0.1.2.2.1, .int .i64 y0.1.2.2.2, .slice y0.2.1 y0.2.2.2.length y0.2.2.1], .slice A L.length c, .string ⟨s.toArray⟩] w (RetI w (verifyP y0.1.1 y0.2.2.2 (L.map RelA.rel) s)) := by
 obtain ⟨rm, A0, c0, l0⟩ := y0
 simp only at h0m hc2 ⊢
 have HA := Lib.hid hA
 have HOK := Lib.hid hok
 have H0 := Lib.hid h0
 have H0M := Lib.hid h0m
 have HG := Lib.hid hG
 have HB0 := Lib.hid (show Below w.heap.size w (w.alloc (.cells #[.string ⟨rm.1.toArray⟩, .int .i64 rm.2.1, .int .i64 rm.2.2.1, .int .i64 rm.2.2.2, .slice A0 l0.length c0] 29)) from (Below.refl _ _).alloc (Nat.le_refl _) _)
 have Q0 := Lib.hid (Blk.new w 29 #[.string ⟨rm.1.toArray⟩, .int .i64 rm.2.1, .int .i64 rm.2.2.1, .int .i64 rm.2.2.2, .slice A0 l0.length c0])
 obtain ⟨RR, hRR⟩ : ∃ RR, RR = verifyP rm.1 l0 (L.map RelA.rel) s := ⟨_, rfl⟩
 rw [← hRR]
 unfold verifyP at hRR
 have cU0 := fun W (hW : Below w.heap.size w W) => Unlock_any s W (hG.keep hW) hs
 obtain ⟨hi1, hi2, hi3⟩ := unlock_inv s
 generalize unlockP s = U at cU0 hRR hi1 hi2 hi3 hc1 hc2
 obtain ⟨E, ec, ea⟩ := U
 unfold RetU at cU0
 simp only at cU0 hRR hi1 hi2 hi3 hc1 hc2
 have cU := Lib.hid cU0
 have HR := Lib.hid hRR
 have HI1 := Lib.hid hi1
 have HI2 := Lib.hid hi2
 have HC1 := Lib.hid hc1
 have HC2 := Lib.hid hc2
 clear hA hok h0 h0m hRR cU0 hi1 hi2 hc1 hc2 hG
 go_enter Tryz.func22, Tryz.ntmps22
 go_wp2_with fail
 refine (cU.out _ HB0.out).mono ?_
 rintro e w2 ⟨A2, c2, rfl, hS2, hb2⟩
 have HB2 := Lib.hid (HB0.out.trans (hb2.mono HB0.out.size))
 have HW3 := Lib.hid (show Below w2.heap.size w2 (w2.alloc (.cells #[.int .i64 ec, .int .i64 (ea : Nat)] 42)) from (Below.refl _ _).alloc (Nat.le_refl _) _)
 have HB3 := Lib.hid (HB2.out.trans (HW3.out.mono HB2.out.size))
 have Q3 := Lib.hid ((Q0.out.keep hb2).keep HW3.out)
 have HS3 := Lib.hid (show Sl (w2.alloc (.cells #[.int .i64 ec, .int .i64 (ea : Nat)] 42)) (w2.alloc (.cells #[.int .i64 ec, .int .i64 (ea : Nat)] 42)).heap.size 5 encE A2 E from (hS2.below HW3.out).more HW3.out.size)
 have V3 := Blk.new w2 42 #[.int .i64 ec, .int .i64 (ea : Nat)]
 obtain ⟨k0, k1⟩ := fltC V3
 clear hS2 hb2 cU V3
 by_cases hec : ec = 0
 rotate_left
 ·have HRes := Lib.hid (show RR = [([], 19)] from by rw [HR.out, if_pos hec])
  have heb : (ec == 0) = false := beq_eq_false_iff_ne.2 hec
  have hen : (ec != 0) = true := by rw [bne, heb]; rfl
  clear hec HR
  generalize hw3 : w2.alloc (.cells #[.int .i64 ec, .int .i64 (ea : Nat)] 42) = w3 at HB3 Q3 HS3 k0 k1 HW3
  go_wp2
  go_ret
  exact ⟨some ⟨w3.heap.size, 0, none⟩, 1, by rw [HRes.out]; rfl, by rw [HRes.out]; exact Nat.le_refl _, by rw [HRes.out]; exact sl_one (x := ([], 19)) (Blk.new _ 67 #[.string ⟨#[]⟩, .int .i64 19]), HB3.out.trans (((Below.refl _ _).alloc (Nat.le_refl _) _).mono HB3.out.size)⟩
 have HR2 := Lib.hid (show RR = if lerr (L.map RelA.rel) ≠ 0 then [([], lerr (L.map RelA.rel))] else if rdiffP (L.map RelA.rel) E ≠ [] then isort (rdiffP (L.map RelA.rel) E) else outR rm.1 l0 (L.map RelA.rel) from by rw [HR.out, if_neg (by simpa using hec)])
 subst hec
 clear HR
 generalize hw3 : w2.alloc (.cells #[.int .i64 0, .int .i64 (ea : Nat)] 42) = w3 at HB3 Q3 HS3 k0 k1 HW3
 have cL0 := List_any A c L w3 ((HA.out.below HB3.out).more HB3.out.size) (fun r hr => (HOK.out r hr).ok.below HB3.out) (by omega) (HG.out.keep HB3.out)
 unfold RetList at cL0
 have HLN := Lib.hid (fun (h : lerr (L.map RelA.rel) = 0) => (lerr_nodup h).2)
 generalize lout (L.map RelA.rel) = lo at cL0
 generalize lerr (L.map RelA.rel) = le at cL0 HR2 HLN
 have cL := Lib.hid cL0
 clear cL0
 go_wp2_with fail
 refine cL.out.mono ?_
 rintro e w4 ⟨A4, c4, rfl, _, hb4, _⟩
 have HB4 := Lib.hid (HB3.out.trans (hb4.mono HB3.out.size))
 have Q4 := Lib.hid (Q3.out.keep hb4)
 have HS4 := Lib.hid (show Sl w4 w4.heap.size 5 encE A2 E from (HS3.out.below hb4).more hb4.size)
 have hQ4lt : w.heap.size < w4.heap.size := Q4.out.lt
 clear hb4 cL k0 k1 HS3 Q3
 by_cases hle : le = 0
 rotate_left
 ·have HRes := Lib.hid (show RR = [([], le)] from by rw [HR2.out, if_pos hle])
  have heb : (le == 0) = false := beq_eq_false_iff_ne.2 hle
  have hen : (le != 0) = true := by rw [bne, heb]; rfl
  clear hle HR2 HLN
  go_wp2
  go_ret
  exact ⟨some ⟨w4.heap.size, 0, none⟩, 1, by rw [HRes.out]; rfl, by rw [HRes.out]; exact Nat.le_refl _, by rw [HRes.out]; exact sl_one (x := ([], le)) (Blk.new _ 67 #[.string ⟨#[]⟩, .int .i64 le]), HB4.out.trans (((Below.refl _ _).alloc (Nat.le_refl _) _).mono HB4.out.size)⟩
 have HR3 := Lib.hid (show RR = if rdiffP (L.map RelA.rel) E ≠ [] then isort (rdiffP (L.map RelA.rel) E) else outR rm.1 l0 (L.map RelA.rel) from by rw [HR2.out, if_neg (by simpa using hle)])
 have HLn := Lib.hid (HLN.out hle)
 subst hle
 have cD0 := differences_any A c L A2 c2 E w4 ((HA.out.below HB4.out).more HB4.out.size) HS4.out (fun r hr => ⟨(HOK.out r hr).ok.below HB4.out, (HOK.out r hr).m⟩) (fun e he => (HI1.out e he).mod) HI2.out (by omega) hi3 (HG.out.keep HB4.out)
 unfold RetD at cD0
 have HDl := Lib.hid (diff_perm HLn.out HI2.out).length_eq
 have HEq := Lib.hid (fun (l : List Iss) hp hs => diff_eq (l := l) HLn.out HI2.out hp hs)
 have HNil := Lib.hid (fun (h : isort (rdiffP (L.map RelA.rel) E) = []) => isort_nil h)
 have HNy := Lib.hid (fun (h : rdiffP (L.map RelA.rel) E = []) => show isort (rdiffP (L.map RelA.rel) E) = [] by rw [h]; rfl)
 generalize diffP (L.map RelA.rel) E = DP at cD0 HDl HEq
 generalize isort (rdiffP (L.map RelA.rel) E) = o1 at HR3 HEq HNil HNy
 generalize rdiffP (L.map RelA.rel) E = RD at HR3 HDl HC1 HC2 HNil HNy
 have cD := Lib.hid cD0
 clear cD0 HR2 HLN
 go_wp2_with fail
 refine cD.out.mono ?_
 rintro e w5 ⟨v5, rfl, hrow, hb5⟩
 have HB5 := Lib.hid (HB4.out.trans (hb5.mono HB4.out.size))
 have Q5 := Lib.hid (Q4.out.keep hb5)
 have hsl5 := hrow.slice
 have HRow := Lib.hid hrow
 have hcap5 : DP.length ≤ cap := by rw [HDl.out]; exact HC1.out
 have cS := Lib.hid (hsort 45 (enters_of Tryz.func45 (by kernel_rfl) rfl) (fun x y W => icmpV_any x y W) v5 DP w5 w4.heap.size HRow.out hcap5)
 obtain ⟨A5, c5, rfl, hc5⟩ := hsl5
 clear hb5 hrow cD Q4 HS4 hcap5
 go_wp2_with fail
 refine cS.out.mono ?_
 rintro e w6 ⟨rfl, ⟨A9, c9, l9, hv9, hc9, hp9, hs9, hsl9⟩, hb6⟩
 have HB6 := Lib.hid (HB5.out.trans (hb6.mono HB4.out.size))
 have HB64 := Lib.hid hb6
 have hll := hp9.length_eq
 have hl9 : l9 = o1 := HEq.out l9 hp9 hs9
 subst hl9
 have hv := hv9
 injection hv with e1 e2 e3
 subst e1 e3
 have HSl9 := Lib.hid hsl9
 have Q6 := Lib.hid (show Blk w6 w.heap.size 29 #[.string ⟨rm.1.toArray⟩, .int .i64 rm.2.1, .int .i64 rm.2.2.1, .int .i64 rm.2.2.2, .slice A0 l0.length c0] from (HB64.out.block w.heap.size hQ4lt).trans Q5.out)
 clear hb6 hv9 hp9 hs9 hsl9 cS e2
 rcases Nat.eq_zero_or_pos DP.length with ho | ho
 rotate_left
 ·have hoi : (0 : Int) < (DP.length : Int) := by omega
  have HRes := Lib.hid (show RR = l9 from by
   rw [HR3.out, if_pos]
   intro h
   rw [HNy.out h] at hll
   simp at hll
   omega)
  have HL := Lib.hid hll
  clear HR3 HNil HNy hll
  go_wp2
  go_ret
  exact ⟨A5, c5, by rw [HRes.out, HL.out]; rfl, by rw [HRes.out, HL.out]; exact hc9, by rw [HRes.out]; exact HSl9.out, HB6.out⟩
 obtain rfl : DP = [] := List.eq_nil_of_length_eq_zero ho
 have hlz : l9 = [] := List.eq_nil_of_length_eq_zero (by rw [hll]; rfl)
 have hRDz := HNil.out hlz
 have HRo := Lib.hid (show RR = outR rm.1 l0 (L.map RelA.rel) from by rw [HR3.out, if_neg (by rw [hRDz]; simp)])
 have hcap2 := HC2.out hRDz
 rw [← (out_perm rm.1 l0 (L.map RelA.rel)).length_eq] at hcap2
 have cO0 := outdatedC_any hsort (rm, A0, c0, l0) A c L w6 (H0.out.below HB6.out) ((HA.out.below HB6.out).more HB6.out.size) (fun r hr => ⟨(HOK.out r hr).ok.below HB6.out, (HOK.out r hr).m, (HOK.out r hr).l, (HOK.out r hr).n⟩) H0M.out hl hcap2
 simp only at cO0
 rw [← HRo.out] at cO0
 unfold RetI at cO0
 have cO := Lib.hid cO0
 obtain ⟨y0, y1, y2, y3, y4⟩ := manC (m := rm) (A := A0) (n := l0.length) (c := c0) Q6.out
 simp only [List.length_nil] at hc5 ⊢
 clear ho HR3 HNil HNy HSl9 hll hlz hRDz hcap2 cO0 HRo
 go_wp2_with fail
 refine cO.out.mono ?_
 rintro e w7 ⟨A7, c7, rfl, hc7, hS7, hb7⟩
 have HB7 := Lib.hid (HB6.out.trans (hb7.mono HB6.out.size))
 have HS7 := Lib.hid hS7
 clear hb7 hS7 cO
 go_wp2
 go_ret
 exact ⟨A7, c7, rfl, hc7, HS7.out, HB7.out⟩
theorem Verify_any (y0 : ManW) (A : Option Addr) (c : Nat) (L : List RelA) (s : List UInt8) (w : World) (h0 : ManS w y0) (hA : Sl w w.heap.size 6 encR A L) (hok : ∀ r ∈ L, RelM w r) (h0m : ∀ x ∈ y0.2.2.2, okMod x) (hl : L.length ≤ 100) (hs : s.length ≤ 140737488355327) (hG : Glob w)
  (hc1 : (rdiffP (L.map RelA.rel) (unlockP s).1).length ≤ sortCap) (hc2 : rdiffP (L.map RelA.rel) (unlockP s).1 = [] → (outR y0.1.1 y0.2.2.2 (L.map RelA.rel)).length ≤ sortCap) :
  Calls Tryz.prog 22 #[.agg #[.string ⟨y0.1.1.toArray⟩, .int .i64 y0.1.2.1, .int .i64 y0.1.2.2.1, .int .i64 y0.1.2.2.2, .slice y0.2.1 y0.2.2.2.length y0.2.2.1], .slice A L.length c, .string ⟨s.toArray⟩] w (RetI w (verifyP y0.1.1 y0.2.2.2 (L.map RelA.rel) s)) :=
 VerifyC_any sortsI_few y0 A c L s w h0 hA hok h0m hl hs hG hc1 hc2
end Go.Proofs.YthcgihgajdjfoaaGreatDoor
