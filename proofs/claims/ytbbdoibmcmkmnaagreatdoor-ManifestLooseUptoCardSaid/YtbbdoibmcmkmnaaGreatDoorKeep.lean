/- What came in reads behind the call as it read before: for arguments of any types. -/
import Derived.Test.YtbbdoibmcmkmnaaGreatDoorFrame
import Derived.ChangeStays
import Derived.ChangeOld
import Derived.ChangeBears
namespace Go.Proofs.YtbbdoibmcmkmnaaGreatDoor
open Go.ChangeShapes Go.WideShapes Go.ChangeAt Go.RowKit

theorem kids : Kids Tryz.prog (· < Tryz.prog.types.size) := kids_rows (by kernel_rfl) (by kernel_rfl)
def slicesWide (P : Program) : Bool := (List.range P.types.size).all fun t => match P.underlying t with
  | some (.slice e) => decide (0 < P.cellsOf e)
  | _ => true
theorem wide_of {P : Program} (h : slicesWide P = true) {t e : TypeId} (ht : t < P.types.size) (hu : P.underlying t = some (.slice e)) : 0 < P.cellsOf e := by
  have := (List.all_eq_true.1 h) t (List.mem_range.2 ht)
  rw [hu] at this
  simpa using this
theorem sliceW : slicesWide Tryz.prog = true := by kernel_rfl
section
variable {H : Type} {enc : TypeId × Value → H} {W W' : World}
theorem trod_stay {sp : Nat → Bool} {t : TypeId} {v : Value} {d : DataW H} {p : List MemPlace} (ht : t < Tryz.prog.types.size) (hb : Below W.heap.size W W') (h : DataW.Trod enc Tryz.prog W 0 (fun _ => true) true t v d p) (hs : ∀ q ∈ p, sp q.block = true) :
    DataW.Trod enc Tryz.prog W' 0 sp true t v d p := by
  obtain ⟨fuel, h⟩ := h
  exact ⟨fuel, DataW.trod_stays kids (fun ht hu => wide_of sliceW ht hu) (fun h => by cases h) ht h (fun q hq => hb.same (DataW.trod_lt _ _ _ _ h q hq)) hs⟩
theorem args_stay {sp : Nat → Bool} (hb : Below W.heap.size W W') : ∀ {ts : List TypeId} {vs : List Value} {ds : List (DataW H)} {p : List MemPlace}, (∀ t ∈ ts, t < Tryz.prog.types.size) → DataW.TrodAll enc Tryz.prog W 0 (fun _ => true) true ts vs ds p → (∀ q ∈ p, sp q.block = true) →
    DataW.TrodAll enc Tryz.prog W' 0 sp true ts vs ds p
  | [], [], [], p, _, h, _ => h
  | t :: ts, v :: vs, d :: ds, p, ht, ⟨p1, q1, h1, h2, he⟩, hs => by
    subst he
    exact ⟨p1, q1, trod_stay (ht t (by simp)) hb h1 (fun q hq => hs q (by simp [hq])), args_stay hb (fun x hx => ht x (by simp [hx])) h2 (fun q hq => hs q (by simp [hq])), rfl⟩
  | [], [], _ :: _, _, _, h, _ => h.elim
  | [], _ :: _, _, _, _, h, _ => h.elim
  | _ :: _, [], _, _, _, h, _ => h.elim
  | _ :: _, _ :: _, [], _, _, h, _ => h.elim
set_option maxRecDepth 100000 in
/-- the last step of a law: it returned true, and nothing that was there has turned -/
theorem law_post {f : Func} {s : ChangeSpec} {args : Array Value} {ds gs : List (DataW H)} {before : List MemPlace} {apart fresh handsOn again : Bool} (hW : DataW.Whole enc Tryz.prog f.params.toList s.vars apart W args.toList ds gs before) (hv : s.vars = []) (hf : (f.params.toList.all fun t => decide (t < Tryz.prog.types.size)) = true)
    (hr : f.resultTypes = #[4]) (hsr : (s.fn H ds).results = [.lit (.bool true)]) (hsa : (s.fn H ds).args = ds) (hsv : (s.fn H ds).vars = []) (hb : Below W.heap.size W W') : s.post enc Tryz.prog f apart fresh handsOn again W args (.bool true) W' := by
  have hW0 := hW
  obtain ⟨p, q, hA, hV, rfl, hfz, hnd⟩ := hW
  rw [hv] at hV
  obtain ⟨rfl, rfl⟩ := trodVars_none hV
  simp only [List.append_nil] at hW0 ⊢
  refine post_of_below (pa := p) (pv := []) hW0 ?_ ?_ ?_ (by simp) hb ?_
  · intro b sp hd
    simp only [List.append_nil]
    rw [hsr, hr]
    exact trodAll_cons_mk (shut_bool Tryz.underlying4 _) trodAll_mk0
  · intro sp hsp
    simp only [List.append_nil]
    rw [hsa]
    exact args_stay hb (fun t ht => by have := (List.all_eq_true.1 hf) t ht; simpa using this) hA hsp
  · intro sp hsp
    simp only [List.append_nil]
    rw [hsv, hv]
    rfl
  · exact ok_one hr rfl (okWide_bool_mk Tryz.underlying4 _)
end
end Go.Proofs.YtbbdoibmcmkmnaaGreatDoor
