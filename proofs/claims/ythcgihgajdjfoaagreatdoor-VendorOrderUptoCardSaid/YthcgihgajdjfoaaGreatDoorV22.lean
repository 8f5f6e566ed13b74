/- What the claim needs of: Shelf3 IT. -/
import Derived.Shelf.SlIter.Nil
import Derived.Shelf.SortM.Plain
import Derived.Shelf.SortM.SortNone
import Derived.Ground.GgzProg
import Derived.Ground.SlgmProg
import Derived.Test.YthcgihgajdjfoaaGreatDoorProg
import Derived.Test.YthcgihgajdjfoaaGreatDoorV15
import Derived.Sort.KeysCollected
namespace Go.Proofs
open Go.Shelf
def Tryz.keysB_ren : Go.Shelf.Ren := ⟨fun | 7 => 115 | 10 => 144 | n => n, fun | 23 => 143 | 26 => 9 | 3 => 24 | 28 => 162 | 0 => 0 | 27 => 153 | 33 => 51 | 4 => 4 | n => n, fun | n => n⟩
theorem Tryz.keysB : Go.Proofs.SlLaysZ.n7 Tryz.prog Tryz.keysB_ren := {
 mixed := by kernel_rfl
 f7 := ⟨Tryz.f115.name, by decide, Tryz.func115.trans (congrArg some (by kernel_rfl))⟩
 f10 := ⟨Tryz.f144.name, by decide, Tryz.func144.trans (congrArg some (by kernel_rfl))⟩
 t0 := Tryz.underlying0
 a0 := Tryz.isAgg0
 z0 := Tryz.sizeOf0
 v0 := Tryz.zeroValue0
 t4 := Tryz.underlying4
 a4 := Tryz.isAgg4
 z4 := Tryz.sizeOf4
 v4 := Tryz.zeroValue4
 t23 := Tryz.underlying143
 a23 := Tryz.isAgg143
 z23 := Tryz.sizeOf143
 v23 := Tryz.zeroValue143
 t26 := Tryz.underlying9
 a26 := Tryz.isAgg9
 z26 := Tryz.sizeOf9
 v26 := Tryz.zeroValue9
 t27 := Tryz.underlying153
 a27 := Tryz.isAgg153
 z27 := Tryz.sizeOf153
 v27 := Tryz.zeroValue153
 t28 := Tryz.underlying162
 a28 := Tryz.isAgg162
 z28 := Tryz.sizeOf162
 v28 := Tryz.zeroValue162
 t33 := Tryz.underlying51
 a33 := Tryz.isAgg51
 z33 := Tryz.sizeOf51
 v33 := Tryz.zeroValue51 }
def Tryz.sortedB_ren : Go.Shelf.Ren := ⟨fun | 6 => 114 | 8 => 142 | 9 => 143 | 11 => 182 | 13 => 124 | 12 => 183 | 23 => 158 | 24 => 159 | 14 => 214 | 15 => 215 | 16 => 216 | 17 => 217 | 18 => 218 | 19 => 219 | 20 => 220 | 21 => 221 | 22 => 222 | 25 => 238 | 26 => 188 | 27 => 189 | 28 => 239 | 29 => 240 | 30 => 93 | 31 => 248 | n => n, fun | 26 => 9 | 28 => 162 | 24 => 79 | 0 => 0 | 3 => 3 | 37 => 173 | 48 => 204 | 50 => 105 | 4 => 4 | 40 => 197 | 39 => 196 | 45 => 201 | 5 => 5 | 9 => 9 | 51 => 221 | 55 => 225 | 57 => 257 | 58 => 258 | 33 => 51 | n => n, fun | n => n⟩
theorem Tryz.sortedB : Go.Proofs.SlLaysZ.n6 Tryz.prog Tryz.sortedB_ren := {
 mixed := by kernel_rfl
 f6 := ⟨Tryz.f114.name, by decide, Tryz.func114.trans (congrArg some (by kernel_rfl))⟩
 f8 := ⟨Tryz.f142.name, by decide, Tryz.func142.trans (congrArg some (by kernel_rfl))⟩
 f11 := ⟨Tryz.f182.name, by decide, Tryz.func182.trans (congrArg some (by kernel_rfl))⟩
 t0 := Tryz.underlying0
 a0 := Tryz.isAgg0
 z0 := Tryz.sizeOf0
 v0 := Tryz.zeroValue0
 t24 := Tryz.underlying79
 a24 := Tryz.isAgg79
 z24 := Tryz.sizeOf79
 v24 := Tryz.zeroValue79
 t26 := Tryz.underlying9
 a26 := Tryz.isAgg9
 z26 := Tryz.sizeOf9
 v26 := Tryz.zeroValue9
 t28 := Tryz.underlying162
 a28 := Tryz.isAgg162
 z28 := Tryz.sizeOf162
 v28 := Tryz.zeroValue162
 i26 := by kernel_rfl }
def Tryz.sortB_ren : Go.Shelf.Ren := ⟨fun | 6 => 143 | 8 => 124 | 9 => 183 | 19 => 158 | 20 => 159 | 21 => 214 | 22 => 215 | 23 => 216 | 24 => 217 | 25 => 218 | 26 => 219 | 27 => 220 | 28 => 221 | 29 => 222 | 36 => 238 | 31 => 188 | 32 => 189 | 37 => 239 | 38 => 240 | 39 => 93 | 41 => 248 | n => n, fun | 27 => 79 | 29 => 9 | 3 => 3 | 32 => 173 | 26 => 79 | 0 => 0 | 44 => 204 | 46 => 105 | 4 => 4 | 36 => 197 | 35 => 196 | 41 => 201 | 5 => 5 | 9 => 9 | 53 => 221 | 57 => 225 | 63 => 257 | 64 => 258 | n => n, fun | n => n⟩
theorem Tryz.sortB : Go.Proofs.SlLaysM.n6 Tryz.prog Tryz.sortB_ren := {
 mixed := by kernel_rfl
 f6 := ⟨Tryz.f143.name, by decide, Tryz.func143.trans (congrArg some (by kernel_rfl))⟩
 f8 := Tryz.func124.trans (congrArg some (by kernel_rfl))
 f9 := ⟨Tryz.f183.name, by decide, Tryz.func183.trans (congrArg some (by kernel_rfl))⟩
 f19 := Tryz.func158.trans (congrArg some (by kernel_rfl))
 f20 := Tryz.func159.trans (congrArg some (by kernel_rfl))
 f21 := ⟨Tryz.f214.name, by decide, Tryz.func214.trans (congrArg some (by kernel_rfl))⟩
 f22 := ⟨Tryz.f215.name, by decide, Tryz.func215.trans (congrArg some (by kernel_rfl))⟩
 f23 := ⟨Tryz.f216.name, by decide, Tryz.func216.trans (congrArg some (by kernel_rfl))⟩
 f24 := ⟨Tryz.f217.name, by decide, Tryz.func217.trans (congrArg some (by kernel_rfl))⟩
 f25 := ⟨Tryz.f218.name, by decide, Tryz.func218.trans (congrArg some (by kernel_rfl))⟩
 f26 := ⟨Tryz.f219.name, by decide, Tryz.func219.trans (congrArg some (by kernel_rfl))⟩
 f27 := ⟨Tryz.f220.name, by decide, Tryz.func220.trans (congrArg some (by kernel_rfl))⟩
 f28 := ⟨Tryz.f221.name, by decide, Tryz.func221.trans (congrArg some (by kernel_rfl))⟩
 f29 := ⟨Tryz.f222.name, by decide, Tryz.func222.trans (congrArg some (by kernel_rfl))⟩
 f31 := Tryz.func188.trans (congrArg some (by kernel_rfl))
 f32 := Tryz.func189.trans (congrArg some (by kernel_rfl))
 f36 := ⟨Tryz.f238.name, by decide, Tryz.func238.trans (congrArg some (by kernel_rfl))⟩
 f37 := ⟨Tryz.f239.name, by decide, Tryz.func239.trans (congrArg some (by kernel_rfl))⟩
 f38 := ⟨Tryz.f240.name, by decide, Tryz.func240.trans (congrArg some (by kernel_rfl))⟩
 f39 := ⟨Tryz.f93.name, by decide, Tryz.func93.trans (congrArg some (by kernel_rfl))⟩
 f41 := ⟨Tryz.f248.name, by decide, Tryz.func248.trans (congrArg some (by kernel_rfl))⟩
 t0 := Tryz.underlying0
 a0 := Tryz.isAgg0
 z0 := Tryz.sizeOf0
 v0 := Tryz.zeroValue0
 t3 := Tryz.underlying3
 a3 := Tryz.isAgg3
 z3 := Tryz.sizeOf3
 v3 := Tryz.zeroValue3
 t4 := Tryz.underlying4
 a4 := Tryz.isAgg4
 z4 := Tryz.sizeOf4
 v4 := Tryz.zeroValue4
 t5 := Tryz.underlying5
 a5 := Tryz.isAgg5
 z5 := Tryz.sizeOf5
 v5 := Tryz.zeroValue5
 t9 := Tryz.underlying9
 a9 := Tryz.isAgg9
 z9 := Tryz.sizeOf9
 v9 := Tryz.zeroValue9
 t26 := Tryz.underlying79
 a26 := Tryz.isAgg79
 z26 := Tryz.sizeOf79
 v26 := Tryz.zeroValue79
 t27 := Tryz.underlying79
 a27 := Tryz.isAgg79
 z27 := Tryz.sizeOf79
 v27 := Tryz.zeroValue79
 t29 := Tryz.underlying9
 a29 := Tryz.isAgg9
 z29 := Tryz.sizeOf9
 v29 := Tryz.zeroValue9
 t32 := Tryz.underlying173
 a32 := Tryz.isAgg173
 z32 := Tryz.sizeOf173
 v32 := Tryz.zeroValue173
 t35 := Tryz.underlying196
 a35 := Tryz.isAgg196
 z35 := Tryz.sizeOf196
 v35 := Tryz.zeroValue196
 t36 := Tryz.underlying197
 a36 := Tryz.isAgg197
 z36 := Tryz.sizeOf197
 v36 := Tryz.zeroValue197
 t41 := Tryz.underlying201
 a41 := Tryz.isAgg201
 z41 := Tryz.sizeOf201
 v41 := Tryz.zeroValue201
 t44 := Tryz.underlying204
 a44 := Tryz.isAgg204
 z44 := Tryz.sizeOf204
 v44 := Tryz.zeroValue204
 t46 := Tryz.underlying105
 a46 := Tryz.isAgg105
 z46 := Tryz.sizeOf105
 v46 := Tryz.zeroValue105
 t53 := Tryz.underlying221
 a53 := Tryz.isAgg221
 z53 := Tryz.sizeOf221
 v53 := Tryz.zeroValue221
 t57 := Tryz.underlying225
 a57 := Tryz.isAgg225
 z57 := Tryz.sizeOf225
 v57 := Tryz.zeroValue225
 t63 := Tryz.underlying257
 a63 := Tryz.isAgg257
 z63 := Tryz.sizeOf257
 v63 := Tryz.zeroValue257
 t64 := Tryz.underlying258
 a64 := Tryz.isAgg258
 z64 := Tryz.sizeOf258
 v64 := Tryz.zeroValue258 }
end Go.Proofs
namespace Go.Proofs.YthcgihgajdjfoaaGreatDoor
open Go.RowKit Go.Maps Go.Sort Go.Shelf
theorem sortsB (m : Nat) : AnyZ.SortsIn Tryz.prog Tryz.sortedB_ren Fence.wide m :=
 ⟨fun blk off cap ss W hH hblk hsz => callsIn_wide.2 (AnyM.slices_Sort_string Tryz.sortB blk off cap ss W hH hblk hsz),
  fun p cap W => callsIn_wide.2 (AnyM.slices_Sort_string_none Tryz.sortB p cap W)⟩
theorem keysB_any (mb : Option Nat) (W : World) : Calls Tryz.prog 115 #[.map mb] W fun e w' => e = .returned (.func (.func 144) #[] #[.pointer (some ⟨W.heap.size, 0, none⟩)]) ∧ w' = W.alloc (.cells #[.map mb] 143) :=
 callsIn_wide.1 (AnyZ.keys_in Tryz.keysB Fence.wide 5 trivial rfl mb W)
set_option maxHeartbeats 1000000 in
theorem sortedB_any {H : Type} (b nn : Nat) (D0 : DataW H) (R : Value → Option (DataW H × List MemPlace)) (w : World) (hown : w.ownsMap Tryz.prog 9 R b nn D0) (hmax : Maps.size D0 ≤ maxLen) (hbytes : Maps.size D0 * 16 ≤ 140737488355328) :
  Calls Tryz.prog 114 #[.func (.func 144) #[] #[.pointer (some ⟨w.heap.size, 0, none⟩)]] (w.alloc (.cells #[.map (some b)] 143)) fun e w' => ∃ (v : Value) (ss : List (List UInt8)), e = .returned v ∧ ss.Perm (strKeys D0) ∧
   w'.ownsRow (w.alloc (.cells #[.map (some b)] 143)).heap.size 9 1 v ss.length ((ss.mergeSort (fun x y => decide (x ≤ y))).map encStr) ∧ (v = .slice none 0 0 ↔ ss = []) ∧ Below (w.alloc (.cells #[.map (some b)] 143)).heap.size (w.alloc (.cells #[.map (some b)] 143)) w' := by
 have hbl := hown.lt
 have hseq : SeqGives Fence.wide 2 Tryz.prog 144 #[.pointer (some ⟨w.heap.size, 0, none⟩)] encStr (fun ss => ss.Perm (strKeys D0)) (Maps.size D0) (w.alloc (.cells #[.map (some b)] 143)) :=
  AnyZ.keys_gives (ρ := Tryz.keysB_ren) { Tryz.keysB with } Fence.wide _ trivial rfl (by omega) w.heap.size b nn D0 _ (by simp) (by simp) (by
   obtain ⟨es, clock, hb, Ft, hs, hD⟩ := hown
   exact ⟨es, clock, (Below.heap_alloc _ _ b hbl).trans hb, Ft, hs, hD⟩)
 exact callsIn_wide.1 (AnyZ.sorted_in Tryz.sortedB Fence.wide 5 trivial trivial trivial trivial rfl (by omega) (sortsB _) (enters_of Tryz.func143 (by kernel_rfl) rfl) 144 #[.pointer (some ⟨w.heap.size, 0, none⟩)] trivial (enters_of Tryz.func144 (by kernel_rfl) rfl) _ _ hmax hbytes _ hseq)
theorem strKeys_spec {D : DataW Value} {w : World} {b n : Nat} {f : List UInt8 → Option Value} (hown : w.ownsMap Tryz.prog 9 Rv b n D) (ht : Tells KS D f) :
  (strKeys D).Nodup ∧ (∀ s ∈ strKeys D, s.length ≤ maxLen) ∧ ∀ s, s.length ≤ maxLen → (s ∈ strKeys D ↔ (f s).isSome = true) := by
 obtain ⟨es, rfl, h1, h2⟩ := hown.entries KS.keyed
 obtain ⟨es', e, h3⟩ := hown.keysOf
 injection e with e
 subst e
 have hk : ∀ p ∈ es, ∃ x : List UInt8, p.1 = .string x ∧ x.length ≤ maxLen := fun p hp => by
  obtain ⟨v, hv⟩ := h3 p hp
  obtain ⟨x, _, h5, h6⟩ := Maps.keyOf_str Tryz.underlying9 hv
  exact ⟨x, h5, h6⟩
 refine ⟨?_, ?_, ?_⟩
 ·show (es.map fun p => strOf p.1).Nodup
  refine List.pairwise_map.2 (h1.imp_of_mem fun {p q} hp' hq' hne e => hne ?_)
  obtain ⟨a, ha, _⟩ := hk p hp'
  obtain ⟨b, hb, _⟩ := hk q hq'
  rw [ha, hb] at e ⊢
  exact congrArg _ e
 ·intro s hs
  obtain ⟨p, hp, rfl⟩ := List.mem_map.1 hs
  obtain ⟨x, h5, h6⟩ := hk p hp
  rw [h5]
  exact h6
 ·intro s hs
  have hh : s ∈ strKeys (.map es) ↔ Maps.has (.map es) (.string s) = true := by
   rw [Maps.has_eq, List.any_eq_true]
   constructor
   ·intro h
    obtain ⟨p, hp, rfl⟩ := List.mem_map.1 h
    obtain ⟨x, h5, h6⟩ := hk p hp
    exact ⟨p, hp, by rw [h5]; exact WideAt.sameKey_self (by exact True.intro)⟩
   ·rintro ⟨p, hp, h⟩
    have := WideAt.sameKey_eq h
    exact List.mem_map.2 ⟨p, hp, by rw [this]; rfl⟩
  rw [hh]
  rcases ht s hs with ⟨h5, h6⟩ | ⟨v, h5, h6, _⟩
  ·have h6' : Maps.has (.map es) (.string s) = false := h6
   rw [h6', h5]; simp
  ·have h6' : Maps.has (.map es) (.string s) = true := h6
   rw [h6', h5]; simp
end Go.Proofs.YthcgihgajdjfoaaGreatDoor
