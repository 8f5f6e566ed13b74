/- What the claim needs of:TE Frame Keep Pf. -/
import Derived.Test.YtdgehhgjgifikaaGreatDoorN30
import Derived.Test.YtdgehhgjgifikaaGreatDoorCards
import Derived.Test.YtdgehhgjgifikaaGreatDoorTie
import Derived.Test.YtdgehhgjgifikaaGreatDoorN4
import Derived.WalkKit
import Derived.ProofKit
import Derived.OpenShut
import Derived.Deep.DeepHandedRow
import Derived.Lib.LaidTab
import Derived.Lay
import Derived.MakeChecks
import Derived.Stop.LaidErr
import Derived.ChangeSame
import Derived.ChangeStays
import Derived.ChangeOld
import Derived.ChangeBears
namespace Go.Proofs.YtdgehhgjgifikaaGreatDoor
def zH5 (s:Tx)(pos:Int):E:=.mk 10 s 0 [] [] [] [] [] pos
def numX (n:Int):E:=.mk 3 [] (n*10000) [] [] [] [] [] 0
def zS3 (l:Tx)(e:E):D:=.mk 1 1 l [] [] [e] [] [] [] [] 0
def letX (l:Tx)(e:E):D:=.mk 4 0 l [] [] [e] [] [] [] [] 0
def zA2 (l:List D):E:=.mk 13 [] 0 [] [] [] l [] 0
def packX (l:List D)(i:List Imp):Pk:=⟨[],[⟨[],i,l,[]⟩]⟩
instance:DecidableEq Us:=fun a b=>decidable_of_iff (a.file=b.file∧a.pos=b.pos∧a.name=b.name∧a.kind=b.kind∧a.depth=b.depth) ⟨fun h=>by cases a;cases b;simp_all,fun h=>by subst h;simp⟩
instance:DecidableEq Df:=fun a b=>decidable_of_iff (a.file=b.file∧a.pos=b.pos∧a.name=b.name∧a.kind=b.kind) ⟨fun h=>by cases a;cases b;simp_all,fun h=>by subst h;simp⟩
def zN6:List Bool→List D→List D
 | [],l=>l
 | m ::r,l=>(fun k=>match r with | []=>k | _ ::_=>zN6 r [zS3 [122] (zA2 k)]) (if m then l++ [zS3 [120] (numX 1)] else l)
def zA3 (bits:List Bool)(imp:Bool):Pk:=packX (zN6 bits [zS3 [121] (zH5 [120] 5)]) (if imp then[⟨[120],[109],0⟩] else[])
def zN9:List Bool→Bool→Us
 | [],imp=>⟨0,5,[120],if imp then 4 else 0,0⟩
 | m ::r,imp=>if m then⟨0,5,[120],1,(r.length:Int)⟩ else zN9 r imp
def xU6:Nat→List (List Bool)
 | 0=>[[]]
 | n+1=>(xU6 n).flatMap fun l=>[true ::l,false ::l]
theorem yN7:∀ l:List Bool,l∈xU6 l.length
 | []=>by simp[xU6]
 | b ::l=>by
   simp only[xU6,List.length_cons,List.mem_flatMap]
   exact⟨l,yN7 l,by cases b <;> simp⟩
open Go.ChangeShapes Go.WideShapes Go.ChangeAt Go.RowKit
theorem own:ownKnob Tryz.prog.godebug=none:=by kernel_rfl
section
variable {H:Type}{enc:TypeId × Value→H}{P:Program}
theorem yS9 {f:Func}{s:ChangeSpec}{apart fresh handsOn again:Bool}{W W':World}{args:Array Value}{v:Value}{ds gs:List (DataW H)}{before pa pv:List MemPlace}
  (hW:DataW.Whole enc P f.params.toList s.vars apart W args.toList ds gs before)
  (hres:∀ (b:Nat)(sp:Nat→Bool)(hd:Bool),DataW.TrodAll enc P W' b sp hd f.resultTypes.toList (v.resultList f.resultTypes.size) (s.fn H (ds++gs)).results [])
  (hargs:∀ sp:Nat→Bool,(∀ p∈before,sp p.block=true)→DataW.TrodAll enc P W' 0 sp true f.params.toList args.toList (s.fn H (ds++gs)).args pa)
  (hvars:∀ sp:Nat→Bool,(∀ p∈before,sp p.block=true)→DataW.TrodVars enc P W' sp s.vars (s.fn H (ds++gs)).vars pv)
  (hps:before=pa++pv)(hb:Below W.heap.size W W')
  (hok:∀ (j:Nat)(t:TypeId)(r:Value),f.resultTypes[j]? = some t→(v.resultList f.resultTypes.size)[j]? = some r→Value.okWide P W' .any 0 t r) :
  s.post enc P f apart fresh handsOn again W args v W':=by
 have hlt:∀ p∈before,p.block < W.heap.size:=fun p hp=>hW.lt p hp
 have hold:∀ p∈before,(fun b=>decide (b < W.heap.size)) p.block=true:=fun p hp=>by simpa using hlt p hp
 refine⟨ds,gs,before,[],pa,pv,hW,hres _ _ _,hargs _ hold,hvars _ hold,World.keptBut_mono (fun p hp=>⟨hp,?_⟩) (hb.frame (·∈before)),fun _=>?_⟩
 ·rw[hps,List.mem_append] at hp
  exact Or.inr hp
 ·obtain⟨_,_,_,_,_,hz,hn⟩:=hW
  refine⟨hok,_,_,([]++pa)++pv,⟨[]++pa,pv,trodAll_append (hargs _ (fun _ _=>rfl)) (hres _ _ _),hvars _ (fun _ _=>rfl),rfl,?_,?_⟩,?_⟩
  ·intro b off hp
   have hin:MemPlace.cell b off∈before:=by rw[hps];simpa using hp
   rw[hb.frozen (hlt _ hin)]
   exact hz b off hin
  ·intro ha
   have:=hn ha
   rw[hps] at this
   simpa using this
  ·intro p hp _
   rw[hps]
   simpa using hp
end
def xU7:List (String × DataW Unit):=Rows.scopesNestedRow.laid
theorem plainL {W:World}(h:laidMetH Tryz.prog xU7 W):laidMet Tryz.prog xU7 W:=by
 rwa [MakeChecks.laidMetH_plain _ _ _ (by kernel_rfl)] at h
theorem glob_of {W:World}(_h:laidMetH Tryz.prog xU7 W)(hs:W.ShapedOpen Tryz.prog):Glob W:=
 cell_of_shapedOpen_int (zero:=#[.int .i64 0]) (t:=3) hs (of_decide_eq_true (by kernel_rfl)) (by kernel_rfl) rfl (by kernel_rfl) (by kernel_rfl) Tryz.underlying3
noncomputable def laidWorld (os:Os):World:=World.laidAll Tryz.prog os xU7
theorem laid_met (os:Os)(args:Array Value):laidMetH Tryz.prog xU7 ((laidWorld os).forCall (fun _ _=>0) ⟨#[],args,[]⟩).memory:=by
 rw[MakeChecks.laidMetH_plain _ _ _ (by kernel_rfl)]
 exact laidMet_laidAll _ (by kernel_rfl) (by kernel_rfl)
theorem kids:Kids Tryz.prog (· < Tryz.prog.types.size):=kids_rows (by kernel_rfl) (by kernel_rfl)
def yX9 (P:Program):Bool:=(List.range P.types.size).all fun t=>match P.underlying t with
 | some (.slice e)=>decide (0 < P.cellsOf e)
 | _=>true
theorem wide_of {P:Program}(h:yX9 P=true){t e:TypeId}(ht:t < P.types.size)(hu:P.underlying t=some (.slice e)):0 < P.cellsOf e:=by
 have:=(List.all_eq_true.1 h) t (List.mem_range.2 ht)
 rw[hu] at this
 simpa using this
theorem sliceW:yX9 Tryz.prog=true:=by kernel_rfl
section
variable {H:Type}{enc:TypeId × Value→H}{W W':World}
theorem xU8 {sp:Nat→Bool}{t:TypeId}{v:Value}{d:DataW H}{p:List MemPlace}(ht:t < Tryz.prog.types.size)(hb:Below W.heap.size W W')(h:DataW.Trod enc Tryz.prog W 0 (fun _=>true) true t v d p)(hs:∀ q∈p,sp q.block=true) :
  DataW.Trod enc Tryz.prog W' 0 sp true t v d p:=by
 obtain⟨fuel,h⟩:=h
 exact⟨fuel,DataW.trod_stays kids (fun ht hu=>wide_of sliceW ht hu) (fun h=>by cases h) ht h (fun q hq=>hb.same (DataW.trod_lt _ _ _ _ h q hq)) hs⟩
theorem yN8 {sp:Nat→Bool}(hb:Below W.heap.size W W'):∀ {ts:List TypeId}{vs:List Value}{ds:List (DataW H)}{p:List MemPlace},(∀ t∈ts,t < Tryz.prog.types.size)→DataW.TrodAll enc Tryz.prog W 0 (fun _=>true) true ts vs ds p→(∀ q∈p,sp q.block=true)→
  DataW.TrodAll enc Tryz.prog W' 0 sp true ts vs ds p
 | [],[],[],p,_,h,_=>h
 | t ::ts,v ::vs,d ::ds,p,ht,⟨p1,q1,h1,h2,he⟩,hs=>by
   subst he
   exact⟨p1,q1,xU8 (ht t (by simp)) hb h1 (fun q hq=>hs q (by simp[hq])),yN8 hb (fun x hx=>ht x (by simp[hx])) h2 (fun q hq=>hs q (by simp[hq])),rfl⟩
 | [],[],_ ::_,_,_,h,_=>h.elim
 | [],_ ::_,_,_,_,h,_=>h.elim
 | _ ::_,[],_,_,_,h,_=>h.elim
 | _ ::_,_ ::_,[],_,_,h,_=>h.elim
set_option maxRecDepth 100000 in
theorem law_post {f:Func}{s:ChangeSpec}{args:Array Value}{ds gs:List (DataW H)}{before:List MemPlace}{apart fresh handsOn again:Bool}(hW:DataW.Whole enc Tryz.prog f.params.toList s.vars apart W args.toList ds gs before)(hv:s.vars=[])(hf:(f.params.toList.all fun t=>decide (t < Tryz.prog.types.size))=true)
  (hr:f.resultTypes=#[4])(hsr:(s.fn H ds).results=[.lit (.bool true)])(hsa:(s.fn H ds).args=ds)(hsv:(s.fn H ds).vars=[])(hb:Below W.heap.size W W'):s.post enc Tryz.prog f apart fresh handsOn again W args (.bool true) W':=by
 have hW0:=hW
 obtain⟨p,q,hA,hV,rfl,hfz,hnd⟩:=hW
 rw[hv] at hV
 obtain⟨rfl,rfl⟩:=trodVars_none hV
 simp only[List.append_nil] at hW0 ⊢
 refine yS9 (pa:=p) (pv:=[]) hW0 ?_ ?_ ?_ (by simp) hb ?_
 ·intro b sp hd
  simp only[List.append_nil]
  rw[hsr,hr]
  exact trodAll_cons_mk (shut_bool Tryz.underlying4 _) trodAll_mk0
 ·intro sp hsp
  simp only[List.append_nil]
  rw[hsa]
  exact yN8 hb (fun t ht=>by have:=(List.all_eq_true.1 hf) t ht;simpa using this) hA hsp
 ·intro sp hsp
  simp only[List.append_nil]
  rw[hsv,hv]
  rfl
 ·exact ok_one hr rfl (okWide_bool_mk Tryz.underlying4 _)
end
theorem and2 {a b:Bool}(ha:a=true)(hb:b=true):(a&&b)=true:=by rw[ha,hb];rfl
set_option maxRecDepth 100000 in
theorem pf_laid:laidOutB Tryz.pinned.checked.prog=true:=by kernel_rfl
set_option maxRecDepth 100000 in
theorem pf_rowed:mapsRowed Tryz.pinned.checked.prog=true:=by kernel_rfl
set_option maxRecDepth 100000 in
theorem pf_heard:Tryz.pinned.checked.prog.stopsHeard=true:=by kernel_rfl
set_option maxRecDepth 100000 in
theorem pf_enter:Tryz.pinned.checked.prog.mayEnter=true:=by kernel_rfl
set_option maxRecDepth 100000 in
theorem pf_lifts (c:OpenClaim)(h:c.lifted=Rows.scopesNestedRow.lifted):(c.lifted == Tryz.pinned.checked.prog.liftsFinal)=true:=by rw[h];kernel_rfl
set_option maxRecDepth 100000 in
theorem pf_make (c:OpenClaim)(h:c.make=Rows.scopesNestedRow.make):(Tryz.pinned.checked.prog.make == some c.make)=true:=by rw[h];kernel_rfl
end Go.Proofs.YtdgehhgjgifikaaGreatDoor
