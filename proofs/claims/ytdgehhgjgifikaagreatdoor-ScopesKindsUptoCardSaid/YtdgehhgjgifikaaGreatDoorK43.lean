/- What the claim needs of:OD Frame Keep Pf. -/
import Derived.Test.YtdgehhgjgifikaaGreatDoorK42
import Derived.Test.YtdgehhgjgifikaaGreatDoorCards
import Derived.Test.YtdgehhgjgifikaaGreatDoorTie
import Derived.Test.YtdgehhgjgifikaaGreatDoorK4
import Derived.WalkKit
import Derived.ProofKit
import Derived.OpenShut
import Derived.Deep.DeepHandedRow
import Derived.Lib.LaidTab
import Derived.Lay
import Derived.MakeChecks
import Derived.Stop.LaidErr
import Derived.ChangeSame
import Derived.ChangeStays
import Derived.ChangeOld
import Derived.ChangeBears
namespace Go.Proofs.YtdgehhgjgifikaaGreatDoor
open Go.ChangeShapes Go.WideShapes Go.RowKit Go.Deep
set_option maxRecDepth 100000 in
theorem xR5 (w:World)(B:Nat):zK8 Tryz.prog w B 60 encI (fun x=>x.name.length≤B∧x.path.length≤B∧wfI x.pos):=by
 intro H en sp held fuel cs x h hb;obtain⟨hl,hp⟩:=zR1 Tryz.underlying60 h hb;rw[show Tryz.prog.cellsOf 60=3 from by kernel_rfl] at hl;obtain⟨n0,y0,t0,b0⟩:=hp 0 _ rfl;obtain⟨n1,y1,t1,b1⟩:=hp 1 _ rfl;obtain⟨n2,y2,t2,b2⟩:=hp 2 _ rfl;change DataW.trod en Tryz.prog w 0 sp held n0 9 ((cs.drop 0).take (Tryz.prog.cellsOf 9))=some y0 at t0;change DataW.trod en Tryz.prog w 0 sp held n1 9 ((cs.drop 1).take (Tryz.prog.cellsOf 9))=some y1 at t1;change DataW.trod en Tryz.prog w 0 sp held n2 3 ((cs.drop 2).take (Tryz.prog.cellsOf 3))=some y2 at t2;rw[show Tryz.prog.cellsOf 9=1 from by kernel_rfl] at t0 t1;rw[show Tryz.prog.cellsOf 3=1 from by kernel_rfl] at t2;obtain⟨z0,g0,k0⟩:=zX2 (B:=B) Tryz.underlying9 _ _ _ _ _ _ _ t0 b0;obtain⟨z1,g1,k1⟩:=zX2 (B:=B) Tryz.underlying9 _ _ _ _ _ _ _ t1 b1;obtain⟨z2,g2,k2⟩:=zQ9 (B:=B) (w:=w) Tryz.underlying3 _ _ _ _ _ _ _ t2 b2;clear t0 t1 t2 b0 b1 b2 hp h hb;match cs,hl with
 | [v0,v1,v2],_=>
   simp at g0 g1 g2;subst g0 g1 g2;exact⟨⟨z0,z1,z2⟩,rfl,k0,k1,k2⟩
set_option maxRecDepth 100000 in
def treeT:TreeT Tryz.prog 67 71 9 where
 e0:=_
 e1:=_
 e2:=_
 e3:=_
 e4:=_
 e5:=_
 e6:=_
 e7:=_
 hE:=Tryz.underlying67
 cE:=by kernel_rfl
 qe0:=⟨rfl,by kernel_rfl,Tryz.underlying2⟩
 qe1:=⟨rfl,by kernel_rfl,Tryz.underlying9⟩
 qe2:=⟨rfl,by kernel_rfl,Tryz.underlying2⟩
 qe3:=⟨rfl,by kernel_rfl,Tryz.underlying64⟩
 qe4:=⟨rfl,by kernel_rfl,Tryz.underlying65⟩
 qe5:=⟨rfl,by kernel_rfl,Tryz.underlying56⟩
 qe6:=⟨rfl,by kernel_rfl,Tryz.underlying44⟩
 qe7:=⟨rfl,by kernel_rfl,Tryz.underlying3⟩
 d0:=_
 d1:=_
 d2:=_
 d3:=_
 d4:=_
 d5:=_
 d6:=_
 d7:=_
 d8:=_
 d9:=_
 hD:=Tryz.underlying71
 cD:=by kernel_rfl
 qd0:=⟨rfl,by kernel_rfl,Tryz.underlying3⟩
 qd1:=⟨rfl,by kernel_rfl,Tryz.underlying3⟩
 qd2:=⟨rfl,by kernel_rfl,Tryz.underlying9⟩
 qd3:=⟨rfl,by kernel_rfl,Tryz.underlying64⟩
 qd4:=⟨rfl,by kernel_rfl,Tryz.underlying65⟩
 qd5:=⟨rfl,by kernel_rfl,Tryz.underlying56⟩
 qd6:=⟨rfl,by kernel_rfl,Tryz.underlying44⟩
 qd7:=⟨rfl,by kernel_rfl,Tryz.underlying44⟩
 qd8:=⟨rfl,by kernel_rfl,Tryz.underlying9⟩
 qd9:=⟨rfl,by kernel_rfl,Tryz.underlying3⟩
 hS:=Tryz.underlying9
 cS:=by kernel_rfl
set_option maxRecDepth 100000 in
theorem xZ0 (w:World)(B:Nat):zK8 Tryz.prog w B 58 encF (InF w B):=by
 intro H en sp held fuel cs x h hb;obtain⟨hl,hp⟩:=zR1 Tryz.underlying58 h hb;rw[show Tryz.prog.cellsOf 58=4 from by kernel_rfl] at hl;obtain⟨n0,y0,t0,b0⟩:=hp 0 _ rfl;obtain⟨n1,y1,t1,b1⟩:=hp 1 _ rfl;obtain⟨n2,y2,t2,b2⟩:=hp 2 _ rfl;obtain⟨n3,y3,t3,b3⟩:=hp 3 _ rfl;change DataW.trod en Tryz.prog w 0 sp held n0 9 ((cs.drop 0).take (Tryz.prog.cellsOf 9))=some y0 at t0;change DataW.trod en Tryz.prog w 0 sp held n1 55 ((cs.drop 1).take (Tryz.prog.cellsOf 55))=some y1 at t1;change DataW.trod en Tryz.prog w 0 sp held n2 56 ((cs.drop 2).take (Tryz.prog.cellsOf 56))=some y2 at t2;change DataW.trod en Tryz.prog w 0 sp held n3 44 ((cs.drop 3).take (Tryz.prog.cellsOf 44))=some y3 at t3;rw[show Tryz.prog.cellsOf 9=1 from by kernel_rfl] at t0;rw[show Tryz.prog.cellsOf 55=1 from by kernel_rfl] at t1;rw[show Tryz.prog.cellsOf 56=1 from by kernel_rfl] at t2;rw[show Tryz.prog.cellsOf 44=1 from by kernel_rfl] at t3;obtain⟨z0,g0,k0⟩:=zX2 (B:=B) Tryz.underlying9 _ _ _ _ _ _ _ t0 b0;obtain⟨z1,g1,k1⟩:=zP0 (B:=B) Tryz.underlying55 (show Tryz.prog.cellsOf 60=3 from by kernel_rfl) (by decide) zN2 (xR5 w B) _ _ _ _ _ _ _ t1 b1;obtain⟨z2,g2,k2⟩:=zP0 (B:=B) Tryz.underlying56 (show Tryz.prog.cellsOf 71=11 from by kernel_rfl) (by decide) zN1 (yI3 treeT B B qJ).2 _ _ _ _ _ _ _ t2 b2;obtain⟨z3,g3,k3⟩:=zP0 (B:=B) Tryz.underlying44 (show Tryz.prog.cellsOf 9=1 from by kernel_rfl) (by decide) (fun _=>rfl) (zX2 (w:=w) Tryz.underlying9) _ _ _ _ _ _ _ t3 b3;clear t0 t1 t2 t3 b0 b1 b2 b3 hp h hb;match cs,hl with
 | [v0,v1,v2,v3],_=>
   simp[yZ3] at g0 g1 g2 g3;subst g0 g1 g2 g3;exact⟨⟨z0,z1.1,z1.2.1,z1.2.2,z2.1,z2.2.1,z2.2.2,z3.1,z3.2.1,z3.2.2⟩,rfl,k0,k1.1,⟨k1.2.2.1,k1.2.2.2⟩,k1.2.1,k2.1,⟨k2.2.2.1,k2.2.2.2⟩,inDs k2.2.1,k3.1,⟨k3.2.2.1,k3.2.2.2⟩,k3.2.1⟩
set_option maxRecDepth 100000 in
theorem opens_pack (w:World)(B:Nat):zK8 Tryz.prog w B 24 (fun p:PA=>[.string ⟨p.path.toArray⟩,.slice p.A p.files.length p.c]) (InP w B):=by
 intro H en sp held fuel cs x h hb;obtain⟨hl,hp⟩:=zR1 Tryz.underlying24 h hb;rw[show Tryz.prog.cellsOf 24=2 from by kernel_rfl] at hl;obtain⟨n0,y0,t0,b0⟩:=hp 0 _ rfl;obtain⟨n1,y1,t1,b1⟩:=hp 1 _ rfl;change DataW.trod en Tryz.prog w 0 sp held n0 9 ((cs.drop 0).take (Tryz.prog.cellsOf 9))=some y0 at t0;change DataW.trod en Tryz.prog w 0 sp held n1 22 ((cs.drop 1).take (Tryz.prog.cellsOf 22))=some y1 at t1;rw[show Tryz.prog.cellsOf 9=1 from by kernel_rfl] at t0;rw[show Tryz.prog.cellsOf 22=1 from by kernel_rfl] at t1;obtain⟨z0,g0,k0⟩:=zX2 (B:=B) Tryz.underlying9 _ _ _ _ _ _ _ t0 b0;obtain⟨z1,g1,k1⟩:=zP0 (B:=B) Tryz.underlying22 (show Tryz.prog.cellsOf 58=4 from by kernel_rfl) (by decide) yH6 (xZ0 w B) _ _ _ _ _ _ _ t1 b1;clear t0 t1 b0 b1 hp h hb;match cs,hl with
 | [v0,v1],_=>
   simp[yZ3] at g0 g1;subst g0 g1;exact⟨⟨z0,z1.1,z1.2.1,z1.2.2⟩,rfl,k0,k1.1,⟨k1.2.2.1,k1.2.2.2⟩,k1.2.1⟩
section
variable {H:Type}{en:TypeId × Value→H}{r:Go.Reach}{b0:Nat}{sp:Nat→Bool}{held:Bool}{v:Value}{d:DataW H}{p:List MemPlace}{w:World}
set_option maxRecDepth 100000 in
theorem open_st {α:Type}{t:TypeId}{fs:Array Field}{B:Nat}{enc:α→List Value}{OK:α→Prop}(ht:Tryz.prog.underlying t=some (.struct fs))(ho:zK8 Tryz.prog w B t enc OK)(hv:Value.okWide Tryz.prog w r b0 t v)(h:DataW.Trod en Tryz.prog w 0 sp held t v d p)(hB:Rows.uptoBulk d≤B) :
  ∃ y,v=.agg (enc y).toArray∧OK y:=by
 obtain⟨cs,rfl,_⟩:=okWide_struct ht hv;obtain⟨fuel,h⟩:=h;obtain⟨y,e,hy⟩:=ho _ _ _ _ _ _ _ h hB;have e':cs.toList=enc y:=e;exact⟨y,by rw[←e'],hy⟩
end
theorem bulk_of {H:Type}{ds:List (DataW H)}(hk:Rows.uptoSmall H ds=true):Rows.uptoBulkAll ds≤1048576:=of_decide_eq_true hk
open Go.ChangeAt
theorem own:ownKnob Tryz.prog.godebug=none:=by kernel_rfl
section
variable {H:Type}{enc:TypeId × Value→H}{P:Program}
theorem yP2 {f:Func}{s:ChangeSpec}{apart fresh handsOn again:Bool}{W W':World}{args:Array Value}{v:Value}{ds gs:List (DataW H)}{before pa pv:List MemPlace}
  (hW:DataW.Whole enc P f.params.toList s.vars apart W args.toList ds gs before)
  (hres:∀ (b:Nat)(sp:Nat→Bool)(hd:Bool),DataW.TrodAll enc P W' b sp hd f.resultTypes.toList (v.resultList f.resultTypes.size) (s.fn H (ds++gs)).results [])
  (hargs:∀ sp:Nat→Bool,(∀ p∈before,sp p.block=true)→DataW.TrodAll enc P W' 0 sp true f.params.toList args.toList (s.fn H (ds++gs)).args pa)
  (hvars:∀ sp:Nat→Bool,(∀ p∈before,sp p.block=true)→DataW.TrodVars enc P W' sp s.vars (s.fn H (ds++gs)).vars pv)
  (hps:before=pa++pv)(hb:Below W.heap.size W W')
  (hok:∀ (j:Nat)(t:TypeId)(r:Value),f.resultTypes[j]? = some t→(v.resultList f.resultTypes.size)[j]? = some r→Value.okWide P W' .any 0 t r) :
  s.post enc P f apart fresh handsOn again W args v W':=by
 have hlt:∀ p∈before,p.block < W.heap.size:=fun p hp=>hW.lt p hp;have hold:∀ p∈before,(fun b=>decide (b < W.heap.size)) p.block=true:=fun p hp=>by simpa using hlt p hp
 refine⟨ds,gs,before,[],pa,pv,hW,hres _ _ _,hargs _ hold,hvars _ hold,World.keptBut_mono (fun p hp=>⟨hp,?_⟩) (hb.frame (·∈before)),fun _=>?_⟩
 ·rw[hps,List.mem_append] at hp;exact Or.inr hp
 ·obtain⟨_,_,_,_,_,hz,hn⟩:=hW;refine⟨hok,_,_,([]++pa)++pv,⟨[]++pa,pv,trodAll_append (hargs _ (fun _ _=>rfl)) (hres _ _ _),hvars _ (fun _ _=>rfl),rfl,?_,?_⟩,?_⟩
  ·intro b off hp;have hin:MemPlace.cell b off∈before:=by rw[hps];simpa using hp
   rw[hb.frozen (hlt _ hin)];exact hz b off hin
  ·intro ha;have:=hn ha;rw[hps] at this;simpa using this
  ·intro p hp _;rw[hps];simpa using hp
end
def xR6:List (String × DataW Unit):=Rows.scopesNestedRow.laid
theorem plainL {W:World}(h:laidMetH Tryz.prog xR6 W):laidMet Tryz.prog xR6 W:=by
 rwa [MakeChecks.laidMetH_plain _ _ _ qF] at h
theorem glob_of {W:World}(_h:laidMetH Tryz.prog xR6 W)(hs:W.ShapedOpen Tryz.prog):Glob W:=
 cell_of_shapedOpen_int (zero:=#[.int .i64 0]) (t:=3) hs (of_decide_eq_true qF) qF rfl qF qF Tryz.underlying3
noncomputable def laidWorld (os:Os):World:=World.laidAll Tryz.prog os xR6
theorem laid_met (os:Os)(args:Array Value):laidMetH Tryz.prog xR6 ((laidWorld os).forCall (fun _ _=>0) ⟨#[],args,[]⟩).memory:=by
 rw[MakeChecks.laidMetH_plain _ _ _ qF];exact laidMet_laidAll _ qF qF
theorem kids:Kids Tryz.prog (· < Tryz.prog.types.size):=kids_rows qF qF
def yV8 (P:Program):Bool:=(List.range P.types.size).all fun t=>match P.underlying t with
 | some (.slice e)=>decide (0 < P.cellsOf e)
 | _=>true
theorem wide_of {P:Program}(h:yV8 P=true){t e:TypeId}(ht:t < P.types.size)(hu:P.underlying t=some (.slice e)):0 < P.cellsOf e:=by
 have:=(List.all_eq_true.1 h) t (List.mem_range.2 ht);rw[hu] at this;simpa using this
theorem sliceW:yV8 Tryz.prog=true:=by kernel_rfl
section
variable {H:Type}{enc:TypeId × Value→H}{W W':World}
theorem xR7 {sp:Nat→Bool}{t:TypeId}{v:Value}{d:DataW H}{p:List MemPlace}(ht:t < Tryz.prog.types.size)(hb:Below W.heap.size W W')(h:DataW.Trod enc Tryz.prog W 0 (fun _=>true) true t v d p)(hs:∀ q∈p,sp q.block=true) :
  DataW.Trod enc Tryz.prog W' 0 sp true t v d p:=by
 obtain⟨fuel,h⟩:=h;exact⟨fuel,DataW.trod_stays kids (fun ht hu=>wide_of sliceW ht hu) (fun h=>by cases h) ht h (fun q hq=>hb.same (DataW.trod_lt _ _ _ _ h q hq)) hs⟩
theorem yK0 {sp:Nat→Bool}(hb:Below W.heap.size W W'):∀ {ts:List TypeId}{vs:List Value}{ds:List (DataW H)}{p:List MemPlace},(∀ t∈ts,t < Tryz.prog.types.size)→DataW.TrodAll enc Tryz.prog W 0 (fun _=>true) true ts vs ds p→(∀ q∈p,sp q.block=true)→
  DataW.TrodAll enc Tryz.prog W' 0 sp true ts vs ds p
 | [],[],[],p,_,h,_=>h
 | t ::ts,v ::vs,d ::ds,p,ht,⟨p1,q1,h1,h2,he⟩,hs=>by
   subst he;exact⟨p1,q1,xR7 (ht t (by simp)) hb h1 (fun q hq=>hs q (by simp[hq])),yK0 hb (fun x hx=>ht x (by simp[hx])) h2 (fun q hq=>hs q (by simp[hq])),rfl⟩
 | [],[],_ ::_,_,_,h,_=>h.elim
 | [],_ ::_,_,_,_,h,_=>h.elim
 | _ ::_,[],_,_,_,h,_=>h.elim
 | _ ::_,_ ::_,[],_,_,h,_=>h.elim
set_option maxRecDepth 100000 in
theorem law_post {f:Func}{s:ChangeSpec}{args:Array Value}{ds gs:List (DataW H)}{before:List MemPlace}{apart fresh handsOn again:Bool}(hW:DataW.Whole enc Tryz.prog f.params.toList s.vars apart W args.toList ds gs before)(hv:s.vars=[])(hf:(f.params.toList.all fun t=>decide (t < Tryz.prog.types.size))=true)
  (hr:f.resultTypes=#[4])(hsr:(s.fn H ds).results=[.lit (.bool true)])(hsa:(s.fn H ds).args=ds)(hsv:(s.fn H ds).vars=[])(hb:Below W.heap.size W W'):s.post enc Tryz.prog f apart fresh handsOn again W args (.bool true) W':=by
 have hW0:=hW;obtain⟨p,q,hA,hV,rfl,hfz,hnd⟩:=hW;rw[hv] at hV;obtain⟨rfl,rfl⟩:=trodVars_none hV;simp only[List.append_nil] at hW0 ⊢;refine yP2 (pa:=p) (pv:=[]) hW0 ?_ ?_ ?_ (by simp) hb ?_
 ·intro b sp hd;simp only[List.append_nil];rw[hsr,hr];exact trodAll_cons_mk (shut_bool Tryz.underlying4 _) trodAll_mk0
 ·intro sp hsp;simp only[List.append_nil];rw[hsa];exact yK0 hb (fun t ht=>by have:=(List.all_eq_true.1 hf) t ht;simpa using this) hA hsp
 ·intro sp hsp;simp only[List.append_nil];rw[hsv,hv];rfl
 ·exact ok_one hr rfl (okWide_bool_mk Tryz.underlying4 _)
end
theorem and2 {a b:Bool}(ha:a=true)(hb:b=true):(a&&b)=true:=by rw[ha,hb];rfl
set_option maxRecDepth 100000 in
theorem pf_laid:laidOutB Tryz.pinned.checked.prog=true:=by kernel_rfl
set_option maxRecDepth 100000 in
theorem pf_rowed:mapsRowed Tryz.pinned.checked.prog=true:=by kernel_rfl
set_option maxRecDepth 100000 in
theorem pf_heard:Tryz.pinned.checked.prog.stopsHeard=true:=by kernel_rfl
set_option maxRecDepth 100000 in
theorem pf_enter:Tryz.pinned.checked.prog.mayEnter=true:=by kernel_rfl
set_option maxRecDepth 100000 in
theorem pf_lifts (c:OpenClaim)(h:c.lifted=Rows.scopesNestedRow.lifted):(c.lifted == Tryz.pinned.checked.prog.liftsFinal)=true:=by rw[h];kernel_rfl
set_option maxRecDepth 100000 in
theorem pf_make (c:OpenClaim)(h:c.make=Rows.scopesNestedRow.make):(Tryz.pinned.checked.prog.make == some c.make)=true:=by rw[h];kernel_rfl
end Go.Proofs.YtdgehhgjgifikaaGreatDoor
