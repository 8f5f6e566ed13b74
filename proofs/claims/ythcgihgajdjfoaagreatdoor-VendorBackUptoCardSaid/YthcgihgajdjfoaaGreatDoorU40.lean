/- What the claim needs of: VC IC. -/
import Derived.Test.YthcgihgajdjfoaaGreatDoorU12
import Derived.Test.YthcgihgajdjfoaaGreatDoorU37
import Derived.Test.YthcgihgajdjfoaaGreatDoorU21
import Derived.Test.YthcgihgajdjfoaaGreatDoorU31
import Derived.Test.YthcgihgajdjfoaaGreatDoorU11
import Derived.Test.YthcgihgajdjfoaaGreatDoorU9
import Derived.Test.YthcgihgajdjfoaaGreatDoorU29
namespace Go.Proofs.YthcgihgajdjfoaaGreatDoor
open Go.RowKit Go.Sort
def RetLk (w : World) (r : List UInt8 × Int) (e : Ending) (w' : World) : Prop := e = .returned (.tuple #[.string ⟨r.1.toArray⟩, .int .i64 r.2]) ∧ Below w.heap.size w w'
theorem rerr_zero {r : Rel} (h : rerr r = 0) : mcheck r.1 r.2.1 = 0 ∧ dupN r.2.2 = false := by
  unfold rerr at h
  by_cases hm : mcheck r.1 r.2.1 = 0
  · rw [if_neg (by simpa using hm)] at h
    refine ⟨hm, ?_⟩
    cases hd : dupN r.2.2 with
    | false => rfl
    | true => rw [hd] at h; simp at h
  · rw [if_pos hm] at h
    exact absurd h hm
theorem rline_len {r : Rel} (h : rerr r = 0) : (rline r).length ≤ 100 := by
  have h1 := (mcheck_ok r.1 r.2.1 (rerr_zero h).1).2 r.1 (by simp)
  have h2 := vtext_len r.1.2.1 r.1.2.2.1 r.1.2.2.2
  have h3 := rtext_len r
  unfold rline
  simp only [List.length_append, List.length_singleton]
  omega
theorem lout_mem {L : List Rel} {x : List UInt8} (hx : x ∈ lout L) : ∃ r ∈ L, rerr r = 0 ∧ x = rline r := by
  unfold lout at hx
  by_cases h : lerr L = 0
  · rw [if_pos h] at hx
    obtain ⟨e, he, rfl⟩ := List.mem_map.1 hx
    unfold esort at he
    obtain ⟨r, hr, rfl⟩ := List.mem_map.1 ((List.mergeSort_perm _ _).mem_iff.1 he)
    exact ⟨r, hr, ferr_zero L (lerr_zero L h).1 r hr, rfl⟩
  · rw [if_neg h] at hx
    cases hx
theorem lout_small (L : List Rel) : ∀ x ∈ lout L, x.length ≤ 100 := fun x hx => by
  obtain ⟨r, _, h, rfl⟩ := lout_mem hx
  exact rline_len h
theorem lout_le (L : List Rel) : (lout L).length ≤ L.length := by
  by_cases h : lerr L = 0
  · rw [lout_len L h]; exact Nat.le_refl _
  · rw [lout_ne L h]; exact Nat.zero_le _
theorem nlL_take (X : List (List UInt8)) {k : Nat} (h : k < X.length) : nlL (X.take (k + 1)) = nlL (X.take k) ++ (X[k] ++ [10]) := by
  unfold nlL
  rw [List.take_succ_eq_append_getElem h, List.flatMap_append]
  simp
theorem nlL_len : ∀ X : List (List UInt8), (∀ x ∈ X, x.length ≤ 100) → (nlL X).length ≤ 101 * X.length
  | [], _ => by simp [nlL]
  | x :: X, h => by
    have h1 := h x (by simp)
    have h2 := nlL_len X fun y hy => h y (by simp [hy])
    have e : nlL (x :: X) = x ++ [10] ++ nlL X := by simp [nlL]
    rw [e]
    simp only [List.length_append, List.length_cons, List.length_nil]
    omega
set_option maxRecDepth 100000 in
set_option maxHeartbeats 4000000 in
theorem Lock_any (A : Option Addr) (c : Nat) (L : List RelA) (w : World) (hA : Sl w w.heap.size 6 encR A L) (hok : ∀ r ∈ L, RelOk w r) (hG : Glob w) (hl : L.length ≤ 1000) :
    Calls Tryz.prog 17 #[.slice A L.length c] w (RetLk w (lockP (L.map RelA.rel))) := by
  have cL0 := List_any A c L w hA hok (by omega) hG
  have hlen : (lout (L.map RelA.rel)).length ≤ 1000 := Nat.le_trans (lout_le _) (by simpa using hl)
  have HSm := Lib.hid (lout_small (L.map RelA.rel))
  have HP := Lib.hid (show lockP (L.map RelA.rel) = if lerr (L.map RelA.rel) ≠ 0 then ([], lerr (L.map RelA.rel)) else (nlL (lout (L.map RelA.rel)), 0) from rfl)
  generalize lerr (L.map RelA.rel) = er at cL0 HP
  generalize lout (L.map RelA.rel) = X at cL0 HP HSm hlen
  have cL := Lib.hid cL0
  generalize lockP (L.map RelA.rel) = r at HP
  obtain ⟨r1, r2⟩ := r
  clear cL0
  go_enter Tryz.func17, Tryz.ntmps17
  go_wp2_with fail
  refine cL.out.mono ?_
  rintro e w1 ⟨A1, c1, rfl, hS, hb1, _⟩
  have HS := Lib.hid hS
  have HB := Lib.hid hb1
  clear hS hb1 cL
  by_cases he : er = 0
  · subst he
    obtain ⟨rfl, rfl⟩ : r1 = nlL X ∧ r2 = 0 := by have h := HP.out; simp at h; exact h
    clear HP
    go_wp2_with fail
    go_loopw [6, 19] (fun v i wr => ∃ k : Nat, k ≤ X.length ∧ i = .int .i64 (k : Nat) ∧ v = .string ⟨(nlL (X.take k)).toArray⟩ ∧ wr = w1) (fun _ i _ => X.length - (intOf i).toNat)
    case atStart => exact ⟨0, Nat.zero_le _, rfl, rfl, rfl⟩
    case round =>
      obtain ⟨k, hk, rfl, rfl, rfl⟩ := hrel
      by_cases hlt : k < X.length
      · have hlt' : (k : Int) < (X.length : Int) := by omega
        obtain ⟨b, off, hA1, hbB, g0⟩ := HS.out.str hlt
        have HN := Lib.hid (nlL_take X hlt)
        have hx := HSm.out X[k] (List.getElem_mem hlt)
        have hn := nlL_len (X.take k) (fun x hx => HSm.out x (List.mem_of_mem_take hx))
        have htk : (X.take k).length ≤ 1000 := by rw [List.length_take]; omega
        generalize X[k] = x at g0 HN hx
        generalize nlL (X.take k) = y at HN hn ⊢
        subst hA1
        have h1 : x.length + 1 ≤ maxLen := by unfold maxLen; omega
        have h2 : y.length + (x.length + 1) ≤ maxLen := by unfold maxLen; omega
        go_wp2
        go_roundw
        case rel => exact ⟨k + 1, by omega, by go_num, by rw [HN.out]; simp [ByteArray.mk_append_mk], by first | rfl | trivial⟩
        case measure => first | (simp [intOf]; done) | (simp [intOf]; omega)
      · obtain rfl : k = X.length := by omega
        rw [List.take_length]
        go_wp2
        refine bodyPost_ret (v := .tuple #[.string ⟨(nlL X).toArray⟩, .int .i64 0]) (by simp [results, Tryz.results17, go_sem]) rfl ⟨rfl, HB.out⟩
  · obtain ⟨rfl, rfl⟩ : r1 = [] ∧ r2 = er := by have h := HP.out; simp [he] at h; exact h
    have hen : (r2 == 0) = false := by simpa using he
    clear HP he
    go_wp2
    refine bodyPost_ret (v := .tuple #[.string ⟨([] : List UInt8).toArray⟩, .int .i64 r2]) (by simp [results, Tryz.results17, go_sem]) rfl ⟨rfl, HB.out⟩
set_option maxRecDepth 100000 in
set_option maxHeartbeats 4000000 in
theorem refLock_any (A : Option Addr) (c : Nat) (L : List RelA) (w : World) (hA : Sl w w.heap.size 6 encR A L) (hokB : ∀ r ∈ L, RelB w r) (hl : L.length ≤ 1000) :
    Calls Tryz.prog 18 #[.slice A L.length c] w (RetLk w (lockP (L.map RelA.rel))) := by
  have cL0 := refList_any A c L w hA hokB (by omega)
  have hlen : (lout (L.map RelA.rel)).length ≤ 1000 := Nat.le_trans (lout_le _) (by simpa using hl)
  have HSm := Lib.hid (lout_small (L.map RelA.rel))
  have HP := Lib.hid (show lockP (L.map RelA.rel) = if lerr (L.map RelA.rel) ≠ 0 then ([], lerr (L.map RelA.rel)) else (nlL (lout (L.map RelA.rel)), 0) from rfl)
  generalize lerr (L.map RelA.rel) = er at cL0 HP
  generalize lout (L.map RelA.rel) = X at cL0 HP HSm hlen
  have cL := Lib.hid cL0
  generalize lockP (L.map RelA.rel) = r at HP
  obtain ⟨r1, r2⟩ := r
  clear cL0
  go_enter Tryz.func18, Tryz.ntmps18
  go_wp2_with fail
  refine cL.out.mono ?_
  rintro e w1 ⟨A1, c1, rfl, hS, hb1⟩
  have HS := Lib.hid hS
  have HB := Lib.hid hb1
  clear hS hb1 cL
  by_cases he : er = 0
  · subst he
    obtain ⟨rfl, rfl⟩ : r1 = nlL X ∧ r2 = 0 := by have h := HP.out; simp at h; exact h
    clear HP
    go_wp2_with fail
    go_loopw [6, 7] (fun v i wr => ∃ k : Nat, k ≤ X.length ∧ i = .int .i64 (k : Nat) ∧ v = .string ⟨(nlL (X.take k)).toArray⟩ ∧ wr = w1) (fun _ i _ => X.length - (intOf i).toNat)
    case atStart => exact ⟨0, Nat.zero_le _, rfl, rfl, rfl⟩
    case round =>
      obtain ⟨k, hk, rfl, rfl, rfl⟩ := hrel
      by_cases hlt : k < X.length
      · have hlt' : (k : Int) < (X.length : Int) := by omega
        obtain ⟨b, off, hA1, hbB, g0⟩ := HS.out.str hlt
        have HN := Lib.hid (nlL_take X hlt)
        have hx := HSm.out X[k] (List.getElem_mem hlt)
        have hn := nlL_len (X.take k) (fun x hx => HSm.out x (List.mem_of_mem_take hx))
        have htk : (X.take k).length ≤ 1000 := by rw [List.length_take]; omega
        generalize X[k] = x at g0 HN hx
        generalize nlL (X.take k) = y at HN hn ⊢
        subst hA1
        have h1 : y.length + x.length ≤ maxLen := by unfold maxLen; omega
        have h2 : y.length + x.length + 1 ≤ maxLen := by unfold maxLen; omega
        go_wp2
        go_roundw
        case rel => exact ⟨k + 1, by omega, by go_num, by rw [HN.out]; simp [ByteArray.mk_append_mk], by first | rfl | trivial⟩
        case measure => first | (simp [intOf]; done) | (simp [intOf]; omega)
      · obtain rfl : k = X.length := by omega
        rw [List.take_length]
        go_wp2
        refine bodyPost_ret (v := .tuple #[.string ⟨(nlL X).toArray⟩, .int .i64 0]) (by simp [results, Tryz.results18, go_sem]) rfl ⟨rfl, HB.out⟩
  · obtain ⟨rfl, rfl⟩ : r1 = [] ∧ r2 = er := by have h := HP.out; simp [he] at h; exact h
    have hen : (r2 == 0) = false := by simpa using he
    clear HP he
    go_wp2
    refine bodyPost_ret (v := .tuple #[.string ⟨([] : List UInt8).toArray⟩, .int .i64 r2]) (by simp [results, Tryz.results18, go_sem]) rfl ⟨rfl, HB.out⟩
end Go.Proofs.YthcgihgajdjfoaaGreatDoor
namespace Go.Proofs.YthcgihgajdjfoaaGreatDoor
open Go.RowKit Go.Sort Go.Lib
theorem cut_mem : ∀ (l : List UInt8) (c : UInt8), c ∈ l → c = 47 ∨ ∃ x ∈ splitL 47 l, c ∈ x
  | [], c, h => by simp at h
  | b :: l, c, h => by
    have hne := splitL_ne 47 l
    unfold splitL
    by_cases hb : b = 47
    · rw [if_pos hb]
      rcases List.mem_cons.1 h with rfl | h
      · exact .inl hb
      · rcases cut_mem l c h with h | ⟨x, hx, hc⟩
        · exact .inl h
        · exact .inr ⟨x, List.mem_cons_of_mem _ hx, hc⟩
    · rw [if_neg hb]
      split
      · rename_i e
        rcases List.mem_cons.1 h with rfl | h
        · exact .inr ⟨_, List.mem_cons_self .., List.mem_cons_self ..⟩
        · rcases cut_mem l c h with h | ⟨x, hx, hc⟩
          · exact .inl h
          · rw [e] at hx
            rcases List.mem_cons.1 hx with rfl | hx
            · exact .inr ⟨_, List.mem_cons_self .., List.mem_cons_of_mem _ hc⟩
            · exact .inr ⟨x, List.mem_cons_of_mem _ hx, hc⟩
      · rename_i e
        exact absurd e hne
theorem piece_chars {x : List UInt8} (h : partOk x = true) : ∀ c ∈ x, c ≠ 32 ∧ c ≠ 10 := by
  intro c hc
  obtain ⟨i, hi, rfl⟩ := List.mem_iff_getElem.1 hc
  unfold partOk partK at h
  rw [Bool.and_eq_true, List.all_eq_true] at h
  have h1 := h.1 i (List.mem_range.2 hi)
  rw [List.getD_eq_getElem?_getD, List.getElem?_eq_getElem hi, Option.getD_some] at h1
  generalize x[i] = c at h1
  constructor
  · rintro rfl
    simp [pok, lowc, othc] at h1
  · rintro rfl
    simp [pok, lowc, othc] at h1
theorem pathCh {p : List UInt8} (h : pathOk p = true) : ∀ c ∈ p, c ≠ 32 ∧ c ≠ 10 := by
  unfold pathOk at h
  rw [Bool.and_eq_true, List.all_eq_true] at h
  intro c hc
  rcases cut_mem p c hc with rfl | ⟨x, hx, hcx⟩
  · decide
  · exact piece_chars (h.2 x hx) c hcx
theorem verCh {x y z : Int} (h : vok x y z = true) : ∀ c ∈ vtext x y z, c ≠ 32 ∧ c ≠ 10 := by
  rw [vtext_ok h]
  intro c hc
  obtain ⟨a, b, e, rfl, rfl, rfl, _⟩ := vok_nat h
  simp only [dec_nat] at hc
  have hd : (∃ n : Nat, c ∈ decDigits n) ∨ c = 118 ∨ c = 46 := by
    simp only [List.mem_cons, List.mem_append] at hc
    rcases hc with h | h | h | h | h | h
    · exact .inr (.inl h)
    · exact .inl ⟨_, h⟩
    · exact .inr (.inr h)
    · exact .inl ⟨_, h⟩
    · exact .inr (.inr h)
    · exact .inl ⟨_, h⟩
  rcases hd with ⟨n, hn⟩ | rfl | rfl
  · have := dec_digit n c hn
    refine ⟨?_, ?_⟩ <;> (rintro rfl; simp at this)
  · decide
  · decide
theorem sumCh {s : List UInt8} (h : pOk s = true) : ∀ c ∈ s, c ≠ 32 ∧ c ≠ 10 := by
  unfold pOk at h
  rw [Bool.and_eq_true, Bool.and_eq_true, decide_eq_true_iff, decide_eq_true_iff, List.all_eq_true] at h
  intro c hc
  rw [← List.take_append_drop 2 s] at hc
  rcases List.mem_append.1 hc with hc | hc
  · rw [h.1.2] at hc
    simp at hc
    rcases hc with rfl | rfl <;> decide
  · have := h.2 c hc
    constructor <;> (rintro rfl; revert this; decide)
theorem splitL_mid (b : UInt8) (y : List UInt8) : ∀ x : List UInt8, (∀ c ∈ x, c ≠ b) → splitL b (x ++ b :: y) = x :: splitL b y
  | [], _ => by simp [splitL]
  | c :: x, h => by
    have ih := splitL_mid b y x fun d hd => h d (by simp [hd])
    have hc : ¬ c = b := h c (by simp)
    rw [List.cons_append, splitL, if_neg hc, ih]
theorem splitL_one (b : UInt8) : ∀ x : List UInt8, (∀ c ∈ x, c ≠ b) → splitL b x = [x]
  | [], _ => rfl
  | c :: x, h => by
    have ih := splitL_one b x fun d hd => h d (by simp [hd])
    have hc : ¬ c = b := h c (by simp)
    rw [splitL, if_neg hc, ih]
def okMod2 (m : Mod) : Prop := pathOk m.1 = true ∧ vok m.2.1 m.2.2.1 m.2.2.2 = true
theorem okMod2_of {m : Mod} {l : List Mod} (h : mcheck m l = 0) : okMod2 m := by
  have := ((mcheck_iff m l).1 h).1 m (by simp)
  exact ⟨by simpa [badPath] using this.1, by simpa [badVer] using this.2⟩
theorem rtext_ok {r : Rel} (h : rerr r = 0) : pOk (rtext r) = true := by
  unfold rtext
  rw [if_pos h]
  exact pOk_dtext _
theorem rline_chars {r : Rel} (h : rerr r = 0) : ∀ c ∈ rline r, c ≠ 10 := by
  obtain ⟨h1, h2⟩ := okMod2_of (rerr_zero h).1
  intro c hc
  unfold rline at hc
  simp only [List.mem_append, List.mem_singleton] at hc
  rcases hc with (((hc | hc) | hc) | hc) | hc
  · exact (pathCh h1 c hc).2
  · rw [hc]; decide
  · exact (verCh h2 c hc).2
  · rw [hc]; decide
  · exact (sumCh (rtext_ok h) c hc).2
def entR (r : Rel) : EntV := (r.1, rtext r)
theorem rline_entry {r : Rel} (h : rerr r = 0) : entryP (rline r) = some (entR r) := by
  obtain ⟨h1, h2⟩ := okMod2_of (rerr_zero h).1
  have e : splitL 32 (rline r) = [r.1.1, vtext r.1.2.1 r.1.2.2.1 r.1.2.2.2, rtext r] := by
    have e0 : rline r = r.1.1 ++ 32 :: (vtext r.1.2.1 r.1.2.2.1 r.1.2.2.2 ++ 32 :: rtext r) := by simp [rline]
    rw [e0, splitL_mid 32 _ _ fun c hc => (pathCh h1 c hc).1, splitL_mid 32 _ _ fun c hc => (verCh h2 c hc).1, splitL_one 32 _ fun c hc => (sumCh (rtext_ok h) c hc).1]
  have hv := vparse_text h2
  unfold entryP
  rw [e]
  simp only
  rw [if_pos ⟨h1, by unfold verr; rw [hv]; rfl, by unfold presE; rw [if_pos (rtext_ok h)]⟩]
  unfold vver entR
  rw [hv]
  rfl
theorem nlL_split : ∀ X : List (List UInt8), (∀ x ∈ X, ∀ c ∈ x, c ≠ 10) → splitL 10 (nlL X) = X ++ [[]]
  | [], _ => rfl
  | x :: X, h => by
    have e : nlL (x :: X) = x ++ 10 :: nlL X := by simp [nlL]
    rw [e, splitL_mid 10 _ _ (h x (by simp)), nlL_split X fun y hy => h y (by simp [hy])]
    rfl
theorem unlL_lines : ∀ (R : List Rel) (out : List EntV), (∀ r ∈ R, rerr r = 0) → (out.map (·.1) ++ R.map (·.1)).Pairwise (fun a b => mcmp a b < 0) → unlL out (R.map rline ++ [[]]) = (out ++ R.map entR, 0, 0)
  | [], out, _, _ => by simp [unlL]
  | r :: R, out, h, hp => by
    have ht : ∃ y t, R.map rline ++ [[]] = y :: t := by
      cases R with
      | nil => exact ⟨_, _, rfl⟩
      | cons a R => exact ⟨_, _, rfl⟩
    obtain ⟨y, t, hy⟩ := ht
    have hf : fitsE out (entR r) = true := by
      unfold fitsE
      cases hl : out.getLast? with
      | none => rfl
      | some z =>
        simp only [decide_eq_true_eq]
        rw [List.pairwise_append] at hp
        exact hp.2.2 z.1 (List.mem_map.2 ⟨z, List.mem_of_getLast? hl, rfl⟩) r.1 (by simp)
    rw [List.map_cons, List.cons_append, hy]
    unfold unlL
    rw [rline_entry (h r (by simp))]
    simp only
    rw [if_pos hf, ← hy, unlL_lines R (out ++ [entR r]) (fun q hq => h q (by simp [hq])) (by simpa [entR] using hp)]
    simp
def rcmp (a b : Rel) : Int := mcmp a.1 b.1
def rsort (L : List Rel) : List Rel := L.mergeSort fun x y => !(ltOf rcmp) y x
theorem rlt_eq (a b : Rel) : ltOf rcmp a b = ltOf mcmp a.1 b.1 := rfl
theorem rsort_perm (L : List Rel) : (rsort L).Perm L := List.mergeSort_perm L _
theorem rsort_sorted (L : List Rel) : (rsort L).Pairwise fun a b => ltOf mcmp b.1 a.1 = false := by
  have hto : ∀ a b : Rel, ((!(ltOf rcmp) b a) || (!(ltOf rcmp) a b)) = true := fun a b => by
    rw [rlt_eq, rlt_eq]
    cases hab : (ltOf mcmp) a.1 b.1
    · simp
    · have := le_of_lt mlt_swo hab
      unfold leOf at this
      simp [this]
  have htr : ∀ a b c : Rel, (!(ltOf rcmp) b a) = true → (!(ltOf rcmp) c b) = true → (!(ltOf rcmp) c a) = true := fun a b c h1 h2 => by
    rw [rlt_eq] at *
    simp at *; exact mlt_swo.ntrans c.1 b.1 a.1 h2 h1
  exact (List.pairwise_mergeSort htr hto L).imp fun h => by rw [rlt_eq] at h; simpa using h
theorem lout_rsort {L : List Rel} (h : lerr L = 0) : lout L = (rsort L).map rline := by
  obtain ⟨_, hn⟩ := lerr_nodup h
  have h1 : (rsort L).map entOf = (L.map entOf).mergeSort fun x y => !(ltOf ecmp) y x := by
    refine keyed_unique (f := fun x : Ent => x.1) elt_swo elt_key ((rsort_perm L).map _) ?_ (by rw [ents_keys]; exact hn)
    rw [List.pairwise_map]
    exact rsort_sorted L
  unfold lout
  rw [if_pos h]
  show List.map (·.2) ((L.map entOf).mergeSort fun x y => !(ltOf ecmp) y x) = _
  rw [← h1, List.map_map]
  rfl
theorem rsort_asc {L : List Rel} (hn : (L.map (·.1)).Nodup) : ((rsort L).map (·.1)).Pairwise fun a b => mcmp a b < 0 := by
  have hn' : ((rsort L).map (·.1)).Nodup := ((rsort_perm L).map _).nodup_iff.2 hn
  have hs : ((rsort L).map (·.1)).Pairwise fun a b => ltOf mcmp b a = false := by rw [List.pairwise_map]; exact rsort_sorted L
  refine (hs.and hn').imp fun {a b} h => ?_
  obtain ⟨h1, h2⟩ := h
  have h3 : ¬ mcmp b a < 0 := by simpa [ltOf] using h1
  have h4 := mcmp_anti a b
  have h5 : mcmp a b ≠ 0 := fun h => h2 ((mcmp_eq a b).1 h)
  omega
theorem ferr_all : ∀ {L : List Rel}, ferr L = 0 → ∀ r ∈ L, rerr r = 0
  | [], _, r, hr => by cases hr
  | x :: L, h, r, hr => by
    unfold ferr at h
    by_cases h0 : rerr x = 0
    · rw [if_pos h0] at h
      rcases List.mem_cons.1 hr with rfl | hr
      · exact h0
      · exact ferr_all h r hr
    · rw [if_neg h0] at h
      exact absurd h h0
theorem ferr_allz : ∀ {L : List Rel}, (∀ r ∈ L, rerr r = 0) → ferr L = 0
  | [], _ => rfl
  | x :: L, h => by
    unfold ferr
    rw [if_pos (h x (by simp))]
    exact ferr_allz fun r hr => h r (by simp [hr])
theorem lerr_iff (L : List Rel) : lerr L = 0 ↔ (∀ r ∈ L, rerr r = 0) ∧ (L.map (·.1)).Nodup := by
  constructor
  · intro h
    obtain ⟨h1, h2⟩ := lerr_nodup h
    exact ⟨ferr_all h1, h2⟩
  · rintro ⟨h1, h2⟩
    unfold lerr
    rw [if_neg (by simp [ferr_allz h1]), if_pos h2]
theorem unlock_lock {L : List Rel} (h : lerr L = 0) (hl : L.length ≤ 600) : unlockP (nlL (lout L)) = ((rsort L).map entR, 0, 0) := by
  obtain ⟨h1, h2⟩ := (lerr_iff L).1 h
  have hr : ∀ r ∈ rsort L, rerr r = 0 := fun r hr => h1 r ((rsort_perm L).mem_iff.1 hr)
  have hlen := nlL_len (lout L) (lout_small L)
  have hlo := lout_le L
  have hm : 101 * (lout L).length ≤ 101 * 600 := Nat.mul_le_mul_left _ (by omega)
  unfold unlockP
  rw [if_neg (by omega), lout_rsort h, nlL_split _ (fun x hx => by
    obtain ⟨r, hr', rfl⟩ := List.mem_map.1 hx
    exact rline_chars (hr r hr'))]
  have := unlL_lines (rsort L) [] hr (by simpa using rsort_asc h2)
  simpa using this
theorem lockP_ok {L : List Rel} (h : lerr L = 0) : lockP L = (nlL (lout L), 0) := by unfold lockP; rw [if_neg (by simp [h])]
theorem lockP_bad {L : List Rel} (h : lerr L ≠ 0) : lockP L = ([], lerr L) := by unfold lockP; rw [if_pos h]
theorem clean_diff {L : List Rel} (hn : (L.map (·.1)).Nodup) : rdiffP L ((rsort L).map entR) = [] := by
  unfold rdiffP
  rw [List.append_eq_nil_iff, List.filterMap_eq_nil_iff, List.filterMap_eq_nil_iff]
  constructor
  · intro e he
    obtain ⟨r, hr, rfl⟩ := List.mem_map.1 he
    unfold rdiffE entR
    simp only
    rw [findR_of hn ((rsort_perm L).mem_iff.1 hr)]
    simp
  · intro r hr
    unfold rdiffR
    rw [if_pos]
    rw [List.map_map]
    exact List.mem_map.2 ⟨r, (rsort_perm L).mem_iff.2 hr, rfl⟩
theorem verify_lock {L : List Rel} (h : lerr L = 0) (hl : L.length ≤ 600) (rp : List UInt8) (rl : List Mod) : verifyP rp rl L (lockP L).1 = outR rp rl L := by
  unfold verifyP
  rw [lockP_ok h]
  simp only
  rw [unlock_lock h hl]
  simp only
  rw [clean_diff (lerr_nodup h).2]
  simp [h]
end Go.Proofs.YthcgihgajdjfoaaGreatDoor
