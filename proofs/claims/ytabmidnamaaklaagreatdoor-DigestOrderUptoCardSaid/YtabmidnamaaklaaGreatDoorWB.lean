/- Walks: digest.Sum, digest.Text and its reference. -/
import Derived.Test.YtabmidnamaaklaaGreatDoorWA
import Derived.Lib.SlBytesConst
namespace Go.Proofs.YtabmidnamaaklaaGreatDoor
open Go.RowKit

set_option maxHeartbeats 400000 in
theorem Sum_any (l : List UInt8) (w : World) (hs : l.length ≤ maxLen) :
    Calls Tryz.prog 12 #[.string ⟨l.toArray⟩] w fun e w' => e = .returned (.int .u64 (fnv fstart l)) ∧ Below w.heap.size w w' := by
  have hc := Lib.hid (sum_any fstart (some ⟨w.heap.size, 0, none⟩) 1 [l] (w.alloc (.cells #[.string ⟨l.toArray⟩] 9)) (by simp [maxLen]) (by decide)
    (.inr ⟨w.heap.size, 0, rfl, by simp, fun i hi j v hv => by
      obtain rfl : i = 0 := by simpa using hi
      match j, hv with
      | 0, hv => simp [encS] at hv; subst hv; simp⟩) (by simpa using hs))
  go_enter Tryz.func12, Tryz.ntmps12
  go_wp2_with (go_at_call 26; refine hc.out.mono ?_; rintro e w' ⟨rfl, rfl⟩)
  go_ret
  exact ⟨rfl, (Below.refl _ _).alloc (Nat.le_refl _) _⟩

theorem hexd_ext (m : Nat) (l : List UInt8) : ({ data := #[48, 49, 50, 51, 52, 53, 54, 55, 56, 57, 97, 98, 99, 100, 101, 102] } : ByteArray).extract (m % 16) (m % 16 + 1) ++ ⟨l.toArray⟩ = ⟨(hexd (m % 16) :: l).toArray⟩ := by
  have h : m % 16 < 16 := Nat.mod_lt _ (by decide)
  generalize m % 16 = d at h
  have e : ({ data := #[48, 49, 50, 51, 52, 53, 54, 55, 56, 57, 97, 98, 99, 100, 101, 102] } : ByteArray) = ⟨([48, 49, 50, 51, 52, 53, 54, 55, 56, 57, 97, 98, 99, 100, 101, 102] : List UInt8).toArray⟩ := rfl
  rw [e, ByteArray.extract_mk, ByteArray.mk_append_mk]
  congr 2
  match d, h with
  | 0, _ | 1, _ | 2, _ | 3, _ | 4, _ | 5, _ | 6, _ | 7, _ | 8, _ | 9, _ | 10, _ | 11, _ | 12, _ | 13, _ | 14, _ | 15, _ => rfl
  | d + 16, h => omega

theorem hexs_length (k n : Nat) : (hexs k n).length = k := by
  induction k generalizing n with
  | zero => rfl
  | succ k ih => simp [hexs, ih]
theorem hexs_cons (k n : Nat) : hexs (k + 1) n = hexd (n / 16 ^ k % 16) :: hexs k n := by
  induction k generalizing n with
  | zero => simp [hexs]
  | succ k ih =>
    rw [hexs, ih, hexs, List.cons_append]
    congr 2
    rw [Nat.div_div_eq_div_mul, Nat.pow_succ, Nat.mul_comm]

set_option maxHeartbeats 400000 in
theorem refText_any (n : Nat) (w : World) (hn : n < 18446744073709551616) :
    Calls Tryz.prog 15 #[.int .u64 n] w fun e w' => e = .returned (.string ⟨(dtext n).toArray⟩) ∧ w = w' := by
  go_enter Tryz.func15, Tryz.ntmps15
  go_wp2
  go_loop [0, 4, 5] (fun u s i => ∃ k m : Nat, k ≤ 16 ∧ m < 18446744073709551616 ∧ m = n / 16 ^ k ∧ i = .int .i64 k ∧ u = .int .u64 m ∧ s = .string ⟨(hexs k n).toArray⟩) (fun _ _ i => 16 - (intOf i).toNat)
  case atStart => exact ⟨0, n, Nat.zero_le _, hn, by simp, rfl, rfl, rfl⟩
  case round =>
    obtain ⟨k, m, hk, hm, hf, rfl, rfl, rfl⟩ := hrel
    have HF := Lib.hid hf; clear hf
    have hl : (hexs k n).length ≤ 16 := by rw [hexs_length]; exact hk
    by_cases hlt : (k : Int) < 16
    · have hmin : min (m % 16 + 1) 16 - m % 16 ≤ 1 := by omega
      go_wp2
      go_round
      case rel => exact ⟨k + 1, m / 16, by omega, by omega, by rw [HF.out, Nat.div_div_eq_div_mul, Nat.pow_succ], by go_num, by go_num, by rw [hexd_ext, hexs_cons, ← HF.out]⟩
      case measure => simp [intOf]; omega
    · obtain rfl : k = 16 := by omega
      go_wp2
      go_ret
      exact ⟨by rw [show ({ data := #[104, 58] } : ByteArray) = ⟨([104, 58] : List UInt8).toArray⟩ from rfl, ByteArray.mk_append_mk]; rfl, rfl⟩

theorem elU8 : ElT Tryz.prog 52 5 1 1 := ElT.mk_ (z := .int .u8 0) Tryz.underlying52 (by kernel_rfl) rfl (by decide)

theorem hex_index (n k : Nat) (hk : k < 16) : (n / 2 ^ (60 - 4 * k)) % 16 = n / 16 ^ (15 - k) % 16 := by
  congr 2
  rw [show (16 : Nat) = 2 ^ 4 from rfl, ← Nat.pow_mul]
  congr 1
  omega
theorem hexs_at (K n j : Nat) (hj : j < K) : (hexs K n)[j]? = some (hexd (n / 16 ^ (K - 1 - j) % 16)) := by
  induction K generalizing n with
  | zero => omega
  | succ K ih =>
    simp only [hexs]
    by_cases h : j < K
    · rw [List.getElem?_append_left (by rw [hexs_length]; exact h), ih _ h, Nat.div_div_eq_div_mul]
      congr 3
      rw [Nat.mul_comm, ← Nat.pow_succ]
      congr 2
      omega
    · obtain rfl : j = K := by omega
      rw [List.getElem?_append_right (by rw [hexs_length]; omega), hexs_length]
      simp
theorem hexs_take (n k : Nat) (hk : k < 16) : (hexs 16 n).take (k + 1) = (hexs 16 n).take k ++ [hexd (n / 16 ^ (15 - k) % 16)] := by
  rw [List.take_add_one, hexs_at 16 n k hk]
  rfl
theorem hexd_get (d : Nat) (h : d < 16) (h' : d < ({ data := #[48, 49, 50, 51, 52, 53, 54, 55, 56, 57, 97, 98, 99, 100, 101, 102] } : ByteArray).size) :
    ({ data := #[48, 49, 50, 51, 52, 53, 54, 55, 56, 57, 97, 98, 99, 100, 101, 102] } : ByteArray)[d] = hexd d := by
  match d, h with
  | 0, _ | 1, _ | 2, _ | 3, _ | 4, _ | 5, _ | 6, _ | 7, _ | 8, _ | 9, _ | 10, _ | 11, _ | 12, _ | 13, _ | 14, _ | 15, _ => rfl
  | d + 16, h => omega
theorem and15 (n k : Nat) (hn : n < 18446744073709551616) (hk : k < 16) : bits BinOp.and IntKind.u64 ((n : Int) / 2 ^ (60 - 4 * k)) 15 = ((n / 16 ^ (15 - k) % 16 : Nat) : Int) := by
  have e : ((n : Int) / 2 ^ (60 - 4 * k)) = ((n / 2 ^ (60 - 4 * k) : Nat) : Int) := by simp
  rw [e, show (15 : Int) = ((15 : Nat) : Int) from rfl, u64_and_nat _ _ (Nat.lt_of_le_of_lt (Nat.div_le_self _ _) hn) (by decide), nat_mask4, hex_index n k hk]

set_option maxRecDepth 100000 in
set_option maxHeartbeats 400000 in
theorem Text_any (n : Nat) (w : World) (hn : n < 18446744073709551616) :
    Calls Tryz.prog 14 #[.int .u64 n] w fun e w' => e = .returned (.string ⟨(dtext n).toArray⟩) ∧ Below w.heap.size w w' := by
  have kc := fun (w : World) (C : Array Value) (n c : Nat) => Lib.run_convert_bytes_const (P := Tryz.prog) w 52 5 C n c Tryz.underlying52 Tryz.underlying5
  go_enter Tryz.func14, Tryz.ntmps14
  go_wp2
  go_loopw [3, 4] (fun v i wr => ∃ k : Nat, k ≤ 16 ∧ i = .int .i64 (60 - 4 * (k : Int)) ∧ Acc wr w.heap.size 5 1 v (2 + k) (u8s ([104, 58] ++ (hexs 16 n).take k)) ∧ Below w.heap.size w wr) (fun _ i _ => (intOf i + 5).toNat)
  case atStart => exact ⟨0, by omega, rfl, Acc.marked w _ _ _ 1 2 _ rfl, (Below.refl _ _).alloc (Nat.le_refl _) _⟩
  case round =>
    obtain ⟨k, hk, rfl, hacc, hb⟩ := hrel
    obtain ⟨A, c, rfl⟩ := hacc.shape
    have hbz := hb.size
    by_cases hlt : (k : Int) < 16
    · have h1 : (0 : Int) ≤ 60 - 4 * (k : Int) := by omega
      have ha := and15 n k hn (by omega)
      have ht := Lib.hid (hexs_take n k (by omega))
      have hd : n / 16 ^ (15 - k) % 16 < 16 := Nat.mod_lt _ (by decide)
      generalize n / 16 ^ (15 - k) % 16 = d at ha ht hd
      go_wp2_with (at_builtin; refine wpList_app _ rfl (.tmp 11) (.tmp 17) 52 rfl w.heap.size 5 1 1 elU8 _ _ _ rfl (hacc.alloc _) _ 1 _ _ rfl (Src.lit _ 1 _ _ 1 rfl) (by simp [Value.oneCell']) (by simp only [maxLen]; omega) (by omega) (by simp; omega) ?_; intro v' w1 hacc' _ hb' _ _)
      go_roundw
      case rel =>
        refine ⟨k + 1, by omega, by go_num, ?_, (hb.alloc hbz _).trans hb'⟩
        have e : u8s ([104, 58] ++ (List.take k (hexs 16 n) ++ [hexd d])) = u8s ([104, 58] ++ List.take k (hexs 16 n)) ++ [.int .u8 (hexd d).toNat] := by simp [u8s]
        rw [ht.out, e]
        rw [← hexd_get d hd hd]
        exact hacc'
      case measure => simp [intOf]; omega
    · have h1 : ¬ (0 : Int) ≤ 60 - 4 * (k : Int) := by omega
      have hcv := hacc.str 52 9 Tryz.underlying52 Tryz.underlying5 Tryz.underlying9
      go_wp2
      go_ret
      refine ⟨?_, hb⟩
      obtain rfl : k = 16 := by omega
      rw [List.take_of_length_le (by rw [hexs_length]; omega)]
      rfl
end Go.Proofs.YtabmidnamaaklaaGreatDoor
