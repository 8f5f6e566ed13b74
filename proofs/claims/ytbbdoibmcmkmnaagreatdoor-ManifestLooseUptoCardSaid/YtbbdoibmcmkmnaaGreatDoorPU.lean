/- Plain laws: versions out of texts. -/
import Derived.Test.YtbbdoibmcmkmnaaGreatDoorPD
import Derived.Test.YtbbdoibmcmkmnaaGreatDoorPE
import Derived.Lib.Atoi
namespace Go.Proofs.YtbbdoibmcmkmnaaGreatDoor
open Go.Lib

theorem decFrom_append : ∀ (l r : List UInt8) (acc : Nat), decFrom acc (l ++ r) = (decFrom acc l).bind fun m => decFrom m r
  | [], r, acc => rfl
  | c :: l, r, acc => by
    simp only [List.cons_append, decFrom]
    cases digitVal c with
    | none => rfl
    | some d => exact decFrom_append l r _
theorem dig_nat (n : Nat) : (dig n).toNat = 48 + n % 10 := by
  unfold dig
  rw [UInt8.toNat_ofNat']
  omega
theorem digitVal_dig (n : Nat) : digitVal (dig n) = some (n % 10) := by
  unfold digitVal
  rw [dig_nat, if_pos (by omega)]
  congr 1
  omega
theorem decFrom_dec (n : Nat) : decFrom 0 (decDigits n) = some n := by
  induction n using Nat.strongRecOn with
  | _ n ih =>
    rw [decDigits_step, decFrom_append]
    by_cases h : n / 10 = 0
    · rw [if_pos h]
      simp only [decFrom, Option.bind_some, digitVal_dig]
      congr 1
      omega
    · rw [if_neg h, ih (n / 10) (by omega)]
      simp only [decFrom, Option.bind_some, digitVal_dig]
      congr 1
      omega
theorem dec_digit (n : Nat) : ∀ c ∈ decDigits n, 48 ≤ c.toNat ∧ c.toNat ≤ 57 := by
  induction n using Nat.strongRecOn with
  | _ n ih =>
    intro c hc
    rw [decDigits_step, List.mem_append] at hc
    rcases hc with hc | hc
    · by_cases h : n / 10 = 0
      · rw [if_pos h] at hc; cases hc
      · rw [if_neg h] at hc; exact ih (n / 10) (by omega) c hc
    · obtain rfl : c = dig n := by simpa using hc
      rw [dig_nat]
      omega
theorem dec_ne (n : Nat) : decDigits n ≠ [] := by
  rw [decDigits_step]
  simp
theorem atoi_dec (n : Nat) : atoi (decDigits n) = some (n : Int) := by
  have h1 := dec_digit n
  have h2 := decFrom_dec n
  have h3 := dec_ne n
  revert h1 h2 h3
  generalize decDigits n = l
  intro h1 h2 h3
  cases l with
  | nil => exact absurd rfl h3
  | cons c l =>
    have hc := h1 c (by simp)
    have n1 : (c == 45) = false := by
      rw [beq_eq_false_iff_ne]; rintro rfl; simp at hc
    have n2 : (c == 43) = false := by
      rw [beq_eq_false_iff_ne]; rintro rfl; simp at hc
    have h4 : decNat (c :: l) = some n := by
      unfold decNat
      simpa using h2
    simp only [atoi]
    rw [n1, n2, h4]
    rfl
theorem splitL_none (b : UInt8) : ∀ (l : List UInt8), (∀ c ∈ l, c ≠ b) → splitL b l = [l]
  | [], _ => rfl
  | c :: l, h => by
    have h1 : ¬ c = b := h c (by simp)
    have ih := splitL_none b l (fun x hx => h x (by simp [hx]))
    simp [splitL, h1, ih]
theorem splitL_app (b : UInt8) (r : List UInt8) : ∀ (l : List UInt8), (∀ c ∈ l, c ≠ b) → splitL b (l ++ b :: r) = l :: splitL b r
  | [], _ => by simp [splitL]
  | c :: l, h => by
    have h1 : ¬ c = b := h c (by simp)
    have ih := splitL_app b r l (fun x hx => h x (by simp [hx]))
    simp [splitL, h1, ih]

/-- the k-th number between points -/
def vnum (l : List (List UInt8)) (i : Nat) : Int := match l[i]? with
  | some a => (atoi a).getD 0
  | none => 0
abbrev Ver := Int × Int × Int
/-- the version with a text -/
def vparse (s : List UInt8) : Option Ver :=
  let l := splitL 46 (s.drop 1)
  if s.length ≤ 15 ∧ s.take 1 = [118] ∧ vtext (vnum l 0) (vnum l 1) (vnum l 2) = s then some (vnum l 0, vnum l 1, vnum l 2) else none
theorem vtext_ok {x y z : Int} (h : vok x y z = true) : vtext x y z = 118 :: (dec x ++ 46 :: (dec y ++ 46 :: dec z)) := by
  unfold vtext
  rw [if_pos h]
  simp
theorem vok_of_text {x y z : Int} {s : List UInt8} (h : vtext x y z = s) (hs : s.take 1 = [118]) : vok x y z = true := by
  cases hv : vok x y z
  · subst h
    unfold vtext at hs
    rw [hv] at hs
    simp at hs
  · rfl
theorem vok_nat {x y z : Int} (h : vok x y z = true) : ∃ a b c : Nat, x = a ∧ y = b ∧ z = c ∧ a ≤ 9999 ∧ b ≤ 9999 ∧ c ≤ 9999 := by
  simp [vok] at h
  exact ⟨x.toNat, y.toNat, z.toNat, by omega, by omega, by omega, by omega, by omega, by omega⟩
theorem dec_nat (a : Nat) : dec (a : Int) = decDigits a := by simp [dec]
theorem ne46 (n : Nat) : ∀ c ∈ decDigits n, c ≠ 46 := fun c hc e => by
  have := dec_digit n c hc
  subst e
  simp at this
theorem vsplit {x y z : Int} (h : vok x y z = true) : splitL 46 ((vtext x y z).drop 1) = [dec x, dec y, dec z] := by
  rw [vtext_ok h]
  obtain ⟨a, b, c, rfl, rfl, rfl, _⟩ := vok_nat h
  simp only [dec_nat, List.drop_succ_cons, List.drop_zero]
  rw [splitL_app _ _ _ (ne46 a), splitL_app _ _ _ (ne46 b), splitL_none _ _ (ne46 c)]
theorem vtext_len15 {x y z : Int} (h : vok x y z = true) : (vtext x y z).length ≤ 15 ∧ 6 ≤ (vtext x y z).length := by
  rw [vtext_ok h]
  obtain ⟨a, b, c, rfl, rfl, rfl, h1, h2, h3⟩ := vok_nat h
  have l1 := dec_len (a : Int) (by omega)
  have l2 := dec_len (b : Int) (by omega)
  have l3 := dec_len (c : Int) (by omega)
  have p1 := List.length_pos_iff.2 (dec_ne a)
  have p2 := List.length_pos_iff.2 (dec_ne b)
  have p3 := List.length_pos_iff.2 (dec_ne c)
  simp only [dec_nat] at *
  simp
  omega
theorem vparse_text {x y z : Int} (h : vok x y z = true) : vparse (vtext x y z) = some (x, y, z) := by
  have hs := vsplit h
  have hl := (vtext_len15 h).1
  have ht : (vtext x y z).take 1 = [118] := by rw [vtext_ok h]; rfl
  unfold vparse
  obtain ⟨a, b, c, rfl, rfl, rfl, _⟩ := vok_nat h
  have e0 : vnum [dec (a : Int), dec (b : Int), dec (c : Int)] 0 = a := by simp [vnum, dec_nat, atoi_dec]
  have e1 : vnum [dec (a : Int), dec (b : Int), dec (c : Int)] 1 = b := by simp [vnum, dec_nat, atoi_dec]
  have e2 : vnum [dec (a : Int), dec (b : Int), dec (c : Int)] 2 = c := by simp [vnum, dec_nat, atoi_dec]
  simp only [hs, e0, e1, e2]
  rw [if_pos ⟨hl, ht, trivial⟩]
theorem vparse_some {s : List UInt8} {v : Ver} (h : vparse s = some v) : vtext v.1 v.2.1 v.2.2 = s ∧ vok v.1 v.2.1 v.2.2 = true := by
  unfold vparse at h
  simp only at h
  split at h
  · rename_i hc
    injection h with h
    subst h
    exact ⟨hc.2.2, vok_of_text hc.2.2 hc.2.1⟩
  · cases h

/-- the reference reads byte by byte: where it stands, and three numbers -/
abbrev RSt := Nat × Nat × Nat × Nat
def rstep (q : RSt) (c : UInt8) : Option RSt :=
  if c.toNat = 46 ∧ q.1 < 2 then some (q.1 + 1, q.2) else
  if 48 ≤ c.toNat ∧ c.toNat ≤ 57 then
    (match q.1 with
     | 0 => some (0, q.2.1 * 10 + (c.toNat - 48), q.2.2.1, q.2.2.2)
     | 1 => some (1, q.2.1, q.2.2.1 * 10 + (c.toNat - 48), q.2.2.2)
     | n + 2 => some (n + 2, q.2.1, q.2.2.1, q.2.2.2 * 10 + (c.toNat - 48)))
  else none
def rscan : Option RSt → List UInt8 → Option RSt := List.foldl fun q c => q.bind (rstep · c)
theorem rscan_append (q : Option RSt) (l r : List UInt8) : rscan q (l ++ r) = rscan (rscan q l) r := by simp [rscan]
theorem rscan_none : ∀ l : List UInt8, rscan none l = none
  | [] => rfl
  | _ :: l => rscan_none l
theorem rscan_snoc (q : Option RSt) (l : List UInt8) (c : UInt8) : rscan q (l ++ [c]) = (rscan q l).bind (rstep · c) := by simp [rscan]
theorem rscan_take (q : Option RSt) (l : List UInt8) (k : Nat) (h : k < l.length) : rscan q (l.take (k + 1)) = (rscan q (l.take k)).bind (rstep · l[k]) := by
  rw [List.take_succ_eq_append_getElem h, rscan_snoc]
theorem rscan_bad (q : Option RSt) (l : List UInt8) (k : Nat) (h : rscan q (l.take k) = none) : rscan q l = none := by
  rw [← List.take_append_drop k l, rscan_append, h, rscan_none]
/-- the reference's version with a text -/
def rparse (s : List UInt8) : Option Ver :=
  if 6 ≤ s.length ∧ s.length ≤ 15 ∧ s.take 1 = [118] then
    match rscan (some (0, 0, 0, 0)) (s.drop 1) with
    | some q => if vtext (q.2.1 : Nat) (q.2.2.1 : Nat) (q.2.2.2 : Nat) = s then some ((q.2.1 : Nat), (q.2.2.1 : Nat), (q.2.2.2 : Nat)) else none
    | none => none
  else none
theorem digitVal_some {c : UInt8} {d : Nat} (h : digitVal c = some d) : 48 ≤ c.toNat ∧ c.toNat ≤ 57 ∧ d = c.toNat - 48 := by
  unfold digitVal at h
  split at h
  · injection h with h
    omega
  · cases h
theorem rscan_dec0 : ∀ (l : List UInt8) (a b c m : Nat), decFrom a l = some m → rscan (some (0, a, b, c)) l = some (0, m, b, c)
  | [], a, b, c, m, h => by simp [decFrom] at h; subst h; rfl
  | x :: l, a, b, c, m, h => by
    simp only [decFrom] at h
    cases hd : digitVal x with
    | none => simp [hd] at h
    | some d =>
      simp only [hd] at h
      obtain ⟨h1, h2, rfl⟩ := digitVal_some hd
      have : rstep (0, a, b, c) x = some (0, a * 10 + (x.toNat - 48), b, c) := by
        unfold rstep
        rw [if_neg (by omega), if_pos ⟨h1, h2⟩]
      show rscan ((some (0, a, b, c)).bind (rstep · x)) l = _
      rw [Option.bind_some, this]
      exact rscan_dec0 l _ b c m h
theorem rscan_dec1 : ∀ (l : List UInt8) (a b c m : Nat), decFrom b l = some m → rscan (some (1, a, b, c)) l = some (1, a, m, c)
  | [], a, b, c, m, h => by simp [decFrom] at h; subst h; rfl
  | x :: l, a, b, c, m, h => by
    simp only [decFrom] at h
    cases hd : digitVal x with
    | none => simp [hd] at h
    | some d =>
      simp only [hd] at h
      obtain ⟨h1, h2, rfl⟩ := digitVal_some hd
      have : rstep (1, a, b, c) x = some (1, a, b * 10 + (x.toNat - 48), c) := by
        unfold rstep
        rw [if_neg (by omega), if_pos ⟨h1, h2⟩]
      show rscan ((some (1, a, b, c)).bind (rstep · x)) l = _
      rw [Option.bind_some, this]
      exact rscan_dec1 l a _ c m h
theorem rscan_dec2 : ∀ (l : List UInt8) (a b c m : Nat), decFrom c l = some m → rscan (some (2, a, b, c)) l = some (2, a, b, m)
  | [], a, b, c, m, h => by simp [decFrom] at h; subst h; rfl
  | x :: l, a, b, c, m, h => by
    simp only [decFrom] at h
    cases hd : digitVal x with
    | none => simp [hd] at h
    | some d =>
      simp only [hd] at h
      obtain ⟨h1, h2, rfl⟩ := digitVal_some hd
      have : rstep (2, a, b, c) x = some (2, a, b, c * 10 + (x.toNat - 48)) := by
        unfold rstep
        rw [if_neg (by omega), if_pos ⟨h1, h2⟩]
      show rscan ((some (2, a, b, c)).bind (rstep · x)) l = _
      rw [Option.bind_some, this]
      exact rscan_dec2 l a b _ m h
theorem rscan_text {x y z : Int} (h : vok x y z = true) : rscan (some (0, 0, 0, 0)) ((vtext x y z).drop 1) = some (2, x.toNat, y.toNat, z.toNat) := by
  rw [vtext_ok h]
  obtain ⟨a, b, c, rfl, rfl, rfl, _⟩ := vok_nat h
  simp only [dec_nat, List.drop_succ_cons, List.drop_zero, Int.toNat_natCast]
  rw [rscan_append, rscan_dec0 _ _ _ _ _ (decFrom_dec a)]
  show rscan (some (1, a, 0, 0)) _ = _
  rw [rscan_append, rscan_dec1 _ _ _ _ _ (decFrom_dec b)]
  show rscan (some (2, a, b, 0)) _ = _
  rw [rscan_dec2 _ _ _ _ _ (decFrom_dec c)]
theorem rparse_eq (s : List UInt8) : rparse s = vparse s := by
  cases hv : vparse s with
  | some v =>
    obtain ⟨rfl, hok⟩ := vparse_some hv
    have hl := vtext_len15 hok
    have ht : (vtext v.1 v.2.1 v.2.2).take 1 = [118] := by rw [vtext_ok hok]; rfl
    unfold rparse
    rw [if_pos ⟨hl.2, hl.1, ht⟩, rscan_text hok]
    obtain ⟨x, y, z⟩ := v
    obtain ⟨a, b, c, rfl, rfl, rfl, _⟩ := vok_nat hok
    simp
  | none =>
    cases hr : rparse s with
    | none => rfl
    | some v =>
      exfalso
      unfold rparse at hr
      split at hr
      · rename_i hc
        split at hr
        · rename_i q hq
          split at hr
          · rename_i ht
            have hok := vok_of_text ht hc.2.2
            have := vparse_text hok
            rw [ht, hv] at this
            cases this
          · cases hr
        · cases hr
      · cases hr
end Go.Proofs.YtbbdoibmcmkmnaaGreatDoor
