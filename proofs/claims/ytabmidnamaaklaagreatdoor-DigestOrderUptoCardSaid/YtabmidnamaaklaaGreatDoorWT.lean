/- Walks: the sources of a release in order (digest.sources). -/
import Derived.Test.YtabmidnamaaklaaGreatDoorSort
import Derived.Test.YtabmidnamaaklaaGreatDoorPH
import Derived.Test.YtabmidnamaaklaaGreatDoorShelf2
namespace Go.Proofs.YtabmidnamaaklaaGreatDoor
open Go.RowKit Go.Sort

theorem elSrc : ElT Tryz.prog 38 56 2 32 := ElT.mk_ (z := .agg #[.string ByteArray.empty, .string ByteArray.empty]) Tryz.underlying38 (by kernel_rfl) rfl (by decide)
theorem Sl.src2 {w : World} {B : Nat} {A : Option Addr} {l : List Src2} (h : Sl w B 2 encT A l) {i : Nat} (hi : i < l.length) :
    ∃ b off, A = some ⟨b, off, none⟩ ∧ b < B ∧ w.cell? ⟨b, off + i * 2, none⟩ = some (.string ⟨(l[i]).1.toArray⟩) ∧ w.cell? ⟨b, off + i * 2 + 1, none⟩ = some (.string ⟨(l[i]).2.toArray⟩) := by
  obtain ⟨b, off, e, hb, hc⟩ := h.at_ hi
  exact ⟨b, off, e, hb, by simpa using hc 0 _ rfl, hc 1 _ rfl⟩

set_option maxHeartbeats 1000000 in
theorem srcCmp_any (a b a' b' : List UInt8) (w : World) :
    Calls Tryz.prog 48 #[.agg #[.string ⟨a.toArray⟩, .string ⟨b.toArray⟩], .agg #[.string ⟨a'.toArray⟩, .string ⟨b'.toArray⟩]] w fun e w' => e = .returned (.int .i64 (tcmp (a, b) (a', b'))) ∧ BelowD w.heap.size w w' := by
  have hc := Lib.hid (fun W => cmpS_any a a' W)
  go_enter Tryz.func48, Tryz.ntmps48
  go_wp2_with (go_at_call 40; refine (hc.out _).mono ?_; rintro e w1 ⟨rfl, rfl⟩)
  go_ret
  exact ⟨rfl, ((BelowD.refl _ _).alloc (Nat.le_refl _) _).alloc (by simp) _⟩

set_option maxRecDepth 100000 in
set_option maxHeartbeats 1000000 in
theorem cloneS_any (A : Option Addr) (c : Nat) (l : List Src2) (w : World) (hA : Sl w w.heap.size 2 encT A l) (hl : l.length ≤ 1099511627776) :
    Calls Tryz.prog 46 #[.slice A l.length c] w fun e w' => ∃ v, e = .returned v ∧ NewRowK w' w.heap.size 56 2 encT v l ∧ Below w.heap.size w w' := by
  rcases hA with rfl | ⟨b, off, rfl, hb, hc⟩
  · rcases A with _ | ad
    · refine (AnyE.slices_Clone_nil Tryz.cloneS 0 c w).mono ?_
      rintro e w' ⟨rfl, rfl⟩
      exact ⟨_, rfl, .inl ⟨rfl, _, _, rfl⟩, Below.refl _ _⟩
    · have q := fun (w : World) => Lib.run_eql_slice_nil w _ _ (some ad) 0 c 0 0 Tryz.underlying38
      have hac := Acc.marked w #[] w.heap.size 56 2 0 (0, 0) rfl
      show Calls Tryz.prog 46 #[.slice (some ad) 0 c] w _
      go_enter Tryz.func46, Tryz.ntmps46
      go_wp2_with (at_builtin; refine wpList_app _ rfl (.tmp 5) (.tmp 6) 38 rfl w.heap.size 56 2 32 elSrc (.slice (some ⟨w.heap.size, 0, none⟩) 0 0) 0 _ rfl hac (some ad) 0 c [] rfl ⟨rfl, fun h => absurd h (by decide)⟩ (by simp) (by simp [maxLen]) (by omega) (by simp) ?_; intro v' w1 hacc' _ hb' _ _)
      go_ret
      obtain ⟨A', c', rfl⟩ := hacc'.shape
      exact ⟨_, rfl, .inl ⟨rfl, _, _, rfl⟩, ((Below.refl _ _).alloc (Nat.le_refl _) _).trans hb'⟩
  · obtain ⟨_, h0, i, z, e1, e2, e3, e4, e5⟩ := elSrc
    have hsr := (Sl.src (.inr ⟨b, off, rfl, hb, hc⟩ : Sl w w.heap.size 2 encT (some ⟨b, off, none⟩) l) encT_len)
    rcases Nat.eq_zero_or_pos l.length with h0' | hpos
    · obtain rfl : l = [] := List.eq_nil_of_length_eq_zero h0'
      refine (AnyE.slices_Clone Tryz.cloneS i z 2 32 e1 e2 e3 e4 e5 h0 Tryz.sizeOf56 b off 0 c [] w rfl (by simp [maxLen]) (by omega) (by simp) (by simp)).mono ?_
      rintro e w' ⟨v, rfl, h1, h2, h3⟩
      exact ⟨v, rfl, .inr ⟨h2, h1⟩, h3⟩
    · refine (AnyE.slices_Clone Tryz.cloneS i z 2 32 e1 e2 e3 e4 e5 h0 Tryz.sizeOf56 b off l.length c (l.flatMap encT) w (flat_len encT_len l) (by simp only [maxLen]; omega) (by omega) (fun j u hu => ?_) (encT_one l)).mono ?_
      · obtain ⟨ad, had, hcs⟩ := hsr.2 hpos
        injection had with had
        subst had
        have := hcs j u hu
        rwa [Addr.add_lit] at this
      · rintro e w' ⟨v, rfl, h1, h2, h3⟩
        exact ⟨v, rfl, .inr ⟨h2, h1⟩, h3⟩

theorem sortS_any (v : Value) (l : List Src2) (w : World) (base : Nat) (h : NewRowK w base 56 2 encT v l) (hl : l.length ≤ 1099511627776) :
    Calls Tryz.prog 47 #[v, .func (.func 48) #[] #[]] w (SortedTo w base 2 encT (ltOf tcmp) v l) :=
  sortK_any Tryz.sortS 2 56 Tryz.isAgg56 Tryz.sizeOf56 encT encT_len encT_one1 tcmp tlt_swo 48 (enters_of Tryz.func48 (by kernel_rfl) rfl)
    (fun x y W => srcCmp_any x.1 x.2 y.1 y.2 W) (fun p cap fv w => (AnyF.slices_SortFunc_none Tryz.sortS p cap fv w).mono fun e w' ⟨h1, h2⟩ => ⟨h1, h2.symm⟩) v l w base h hl

/-- sources in order, or none where a name occurs twice -/
def RetSrc (w : World) (l : List Src2) (e : Ending) (w' : World) : Prop :=
  Below w.heap.size w w' ∧ ((dupN l = true ∧ e = .returned (.tuple #[.slice none 0 0, .bool false])) ∨
    (dupN l = false ∧ ∃ A' c', e = .returned (.tuple #[.slice A' l.length c', .bool true]) ∧ Sl w' w'.heap.size 2 encT A' (tsort l)))

set_option maxRecDepth 100000 in
set_option maxHeartbeats 1000000 in
theorem sources_any (A : Option Addr) (c : Nat) (l : List Src2) (w : World) (hA : Sl w w.heap.size 2 encT A l) (hl : l.length ≤ 1099511627776) :
    Calls Tryz.prog 30 #[.slice A l.length c] w (RetSrc w l) := by
  have cc := Lib.hid (cloneS_any A c l w hA hl)
  clear hA
  go_enter Tryz.func30, Tryz.ntmps30
  go_wp2_with (first
    | (go_at_call 46; refine cc.out.mono ?_; rintro e w1 ⟨v, rfl, hn, hb1⟩; have hn' := Lib.hid hn; obtain ⟨A1, c1, rfl, hc1⟩ := hn.slice; clear hn; have hX := Lib.hid hb1; clear hb1)
    | (go_at_call 47; refine (sortS_any _ l _ _ hn'.out hl).mono ?_; rintro e w2 ⟨rfl, ⟨A2, c2, l', h2, hcap, hp, hs, hsl⟩, hb2⟩; have HP := Lib.hid hp; have HS := Lib.hid hs; have HE := Lib.hid h2; clear hp hs h2; have hll := HP.out.length_eq))
  have hEE := HE.out
  injection hEE with e1 e2 e3
  subst e1
  clear e2 e3 HE
  have hB2 := Lib.hid (hX.out.trans hb2)
  clear hb2 hn' cc hX
  go_loopw [5] (fun i wr => ∃ k : Nat, i = .int .i64 (k : Nat) ∧ 1 ≤ k ∧ (k ≤ l'.length ∨ k = 1) ∧ Hid (∀ j, j + 1 < k → ∀ h : j + 1 < l'.length, l'[j].1 ≠ l'[j + 1].1) ∧ Below w2.heap.size w2 wr) (fun i _ => l'.length - (intOf i).toNat)
  case atStart => exact ⟨1, rfl, Nat.le_refl _, .inr rfl, fun j h => by omega, Below.refl _ _⟩
  case round =>
    obtain ⟨k, rfl, hk1, hk2, HA, hb⟩ := hrel
    have hbz := hb.size
    by_cases hlt : k < l'.length
    · have hlt' : (k : Int) < (l.length : Int) := by omega
      obtain ⟨b, off, rfl, hbB, g0, _⟩ := (hsl.below hb).src2 (i := k - 1) (by omega)
      obtain ⟨b', off', hA', hbB', g1, _⟩ := (hsl.below hb).src2 hlt
      injection hA' with hA'
      injection hA' with h1 h2
      subst h1 h2
      have HN := Lib.hid (adj_step k hk1 hlt HA.out)
      have HD' := Lib.hid (dupN_prev k hk1 hlt)
      generalize l'[k - 1].1 = s1 at g0 HN HD'
      generalize l'[k].1 = s2 at g1 HN HD'
      by_cases hs : s1 = s2
      · have hdp := Lib.hid ((dupN_perm HP.out).symm.trans (HD'.out hs))
        subst hs
        go_wp2
        go_quiet (fail)
        go_wp2
        refine bodyPost_ret (v := .tuple #[.slice none 0 0, .bool false]) (by simp [results, Tryz.results30, go_sem]) rfl ?_
        exact ⟨hB2.out.trans ((hb.drewN _).mono (hB2.out.size)), .inl ⟨hdp.out, rfl⟩⟩
      · have hs' : (s1 == s2) = false := beq_eq_false_iff_ne.2 hs
        have HN' := Lib.hid (HN.out hs)
        clear hs HN
        go_wp2
        go_quiet (fail)
        go_wp2
        go_roundw
        case rel => exact ⟨k + 1, by go_num, by omega, .inl (by omega), HN'.out, hb.drewN _⟩
        case measure => simp [intOf]; omega
    · have hlt' : ¬ (k : Int) < (l.length : Int) := by omega
      go_wp2
      have hd : dupN l' = false := dupN_adj HS.out (fun i h => HA.out i (by omega) h)
      have hd' : dupN l = false := (dupN_perm HP.out).symm.trans hd
      refine bodyPost_ret (v := .tuple #[.slice A1 l.length c1, .bool true]) (by simp [results, Tryz.results30, go_sem]) rfl ?_
      refine ⟨hB2.out.trans (hb.mono hB2.out.size), .inr ⟨hd', A1, c1, rfl, ?_⟩⟩
      rw [← tsort_of HP.out HS.out hd']
      exact (hsl.below hb).more hbz
end Go.Proofs.YtabmidnamaaklaaGreatDoor
