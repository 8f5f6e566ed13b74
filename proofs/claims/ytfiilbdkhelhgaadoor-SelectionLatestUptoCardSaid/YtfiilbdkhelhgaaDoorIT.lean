/- The keys of a map of versions, sorted: what maps.Keys and slices.Sorted give. -/
import Derived.Test.YtfiilbdkhelhgaaDoorShelf3
import Derived.Test.YtfiilbdkhelhgaaDoorG1
import Derived.Shelf.SlIter.Nil
import Derived.Shelf.SortM.Plain
import Derived.Shelf.SortM.SortNone
import Derived.Sort.KeysCollected
namespace Go.Proofs.YtfiilbdkhelhgaaDoor
open Go.RowKit Go.Maps Go.Sort Go.Shelf

theorem sortsB (m : Nat) : AnyZ.SortsIn Tryd.prog Tryd.sortedB_ren Fence.wide m :=
  ⟨fun blk off cap ss W hH hblk hsz => callsIn_wide.2 (AnyM.slices_Sort_string Tryd.sortB blk off cap ss W hH hblk hsz),
   fun p cap W => callsIn_wide.2 (AnyM.slices_Sort_string_none Tryd.sortB p cap W)⟩
theorem keysB_any (mb : Option Nat) (W : World) : Calls Tryd.prog 49 #[.map mb] W fun e w' => e = .returned (.func (.func 61) #[] #[.pointer (some ⟨W.heap.size, 0, none⟩)]) ∧ w' = W.alloc (.cells #[.map mb] 77) :=
  callsIn_wide.1 (AnyZ.keys_in Tryd.keysB Fence.wide 5 trivial rfl mb W)
set_option maxHeartbeats 1000000 in
theorem sortedB_any {H : Type} (b nn : Nat) (D0 : DataW H) (R : Value → Option (DataW H × List MemPlace)) (w : World) (hown : w.ownsMap Tryd.prog 9 R b nn D0) (hmax : Maps.size D0 ≤ maxLen) (hbytes : Maps.size D0 * 16 ≤ 140737488355328) :
    Calls Tryd.prog 48 #[.func (.func 61) #[] #[.pointer (some ⟨w.heap.size, 0, none⟩)]] (w.alloc (.cells #[.map (some b)] 77)) fun e w' => ∃ (v : Value) (ss : List (List UInt8)), e = .returned v ∧ ss.Perm (strKeys D0) ∧
      w'.ownsRow (w.alloc (.cells #[.map (some b)] 77)).heap.size 9 1 v ss.length ((ss.mergeSort (fun x y => decide (x ≤ y))).map encStr) ∧ (v = .slice none 0 0 ↔ ss = []) ∧ Below (w.alloc (.cells #[.map (some b)] 77)).heap.size (w.alloc (.cells #[.map (some b)] 77)) w' := by
  have hbl := hown.lt
  have hseq : SeqGives Fence.wide 2 Tryd.prog 61 #[.pointer (some ⟨w.heap.size, 0, none⟩)] encStr (fun ss => ss.Perm (strKeys D0)) (Maps.size D0) (w.alloc (.cells #[.map (some b)] 77)) :=
    AnyZ.keys_gives (ρ := Tryd.keysB_ren) { Tryd.keysB with } Fence.wide _ trivial rfl (by omega) w.heap.size b nn D0 _ (by simp) (by simp) (by
      obtain ⟨es, clock, hb, Ft, hs, hD⟩ := hown
      exact ⟨es, clock, (Below.heap_alloc _ _ b hbl).trans hb, Ft, hs, hD⟩)
  exact callsIn_wide.1 (AnyZ.sorted_in Tryd.sortedB Fence.wide 5 trivial trivial trivial trivial rfl (by omega) (sortsB _) (enters_of Tryd.func60 (by kernel_rfl) rfl) 61 #[.pointer (some ⟨w.heap.size, 0, none⟩)] trivial (enters_of Tryd.func61 (by kernel_rfl) rfl) _ _ hmax hbytes _ hseq)
/-- the keys of a map of strings -/
theorem strKeys_spec {D : DataW Value} {w : World} {b n : Nat} {f : List UInt8 → Option Value} (hown : w.ownsMap Tryd.prog 9 Rv b n D) (ht : Tells KS D f) :
    (strKeys D).Nodup ∧ (∀ s ∈ strKeys D, s.length ≤ maxLen) ∧ ∀ s, s.length ≤ maxLen → (s ∈ strKeys D ↔ (f s).isSome = true) := by
  obtain ⟨es, rfl, h1, h2⟩ := hown.entries KS.keyed
  obtain ⟨es', e, h3⟩ := hown.keysOf
  injection e with e
  subst e
  have hk : ∀ p ∈ es, ∃ x : List UInt8, p.1 = .string x ∧ x.length ≤ maxLen := fun p hp => by
    obtain ⟨v, hv⟩ := h3 p hp
    obtain ⟨x, _, h5, h6⟩ := Maps.keyOf_str Tryd.underlying9 hv
    exact ⟨x, h5, h6⟩
  refine ⟨?_, ?_, ?_⟩
  · show (es.map fun p => strOf p.1).Nodup
    refine List.pairwise_map.2 (h1.imp_of_mem fun {p q} hp' hq' hne e => hne ?_)
    obtain ⟨a, ha, _⟩ := hk p hp'
    obtain ⟨b, hb, _⟩ := hk q hq'
    rw [ha, hb] at e ⊢
    exact congrArg _ e
  · intro s hs
    obtain ⟨p, hp, rfl⟩ := List.mem_map.1 hs
    obtain ⟨x, h5, h6⟩ := hk p hp
    rw [h5]
    exact h6
  · intro s hs
    have hh : s ∈ strKeys (.map es) ↔ Maps.has (.map es) (.string s) = true := by
      rw [Maps.has_eq, List.any_eq_true]
      constructor
      · intro h
        obtain ⟨p, hp, rfl⟩ := List.mem_map.1 h
        obtain ⟨x, h5, h6⟩ := hk p hp
        exact ⟨p, hp, by rw [h5]; exact WideAt.sameKey_self (by exact True.intro)⟩
      · rintro ⟨p, hp, h⟩
        have := WideAt.sameKey_eq h
        exact List.mem_map.2 ⟨p, hp, by rw [this]; rfl⟩
    rw [hh]
    rcases ht s hs with ⟨h5, h6⟩ | ⟨v, h5, h6, _⟩
    · have h6' : Maps.has (.map es) (.string s) = false := h6
      rw [h6', h5]; simp
    · have h6' : Maps.has (.map es) (.string s) = true := h6
      rw [h6', h5]; simp
end Go.Proofs.YtfiilbdkhelhgaaDoor
