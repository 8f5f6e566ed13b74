/- What the claim needs of:TO TP KU KV. -/
import Derived.Test.YtdgehhgjgifikaaGreatDoorK31
import Derived.Test.YtdgehhgjgifikaaGreatDoorK6
import Derived.Test.YtdgehhgjgifikaaGreatDoorK19
namespace Go.Proofs.YtdgehhgjgifikaaGreatDoor
open Go.ChangeShapes Go.WideShapes Go.RowKit Go.Deep
section
variable {P:Program}{w:World}{B:Nat}
theorem zD1 {α:Type}{enc:α→List Value}{OK:α→Prop}{t e:TypeId}{k:Nat}(ht:P.underlying t=some (.slice e))(hC:P.cellsOf e=k)(h0:0 < k)(hk:∀ y,(enc y).length=k)(he:∀ B',B' < B→zK8 P w B' e enc OK) :
  zK8 P w B t (yZ3 (α:=α)) (SlOk w B k enc OK):=by
 intro H en sp held fuel cs x h hB;rcases open_slice ht h with ⟨rfl,rfl⟩ | ⟨a,len,cap,m,n,D,Pl,rfl,_,hl,hm,hmm,rfl,hi⟩
 ·exact⟨(none,0,[]),rfl,.inl rfl,by simp,Nat.le_refl _,Nat.zero_le _⟩
 ·have hlm:len≤m:=by rw[hmm];split <;> omega
  have hb1:len≤B:=by
   have h1:=yZ2 ((List.range len).map D);simp only[Rows.uptoBulk] at hB;simp at h1;omega
  have each:∀ i,i < len→∃ y,w.cells? 0 (a.add (i*k)) k=some (enc y)∧OK y:=by
   intro i hil;obtain⟨cs',h1,h2⟩:=hi i qG;rw[hC] at h1;have hbd:Rows.uptoBulk (D i) < B:=by
    have hm:D i∈(List.range len).map D:=List.mem_map.2 ⟨i,List.mem_range.2 hil,rfl⟩;have:=yZ1 hm;simp only[Rows.uptoBulk] at hB;omega
   obtain⟨y,rfl,hy⟩:=he _ hbd _ _ _ _ _ _ _ h2 qJ;exact⟨y,h1,hy⟩
  have hch:∃ f:Fin len→α,∀ i:Fin len,w.cells? 0 (a.add (i.1*k)) k=some (enc (f i))∧OK (f i):=⟨fun i=>(each i.1 i.2).choose,fun i=>(each i.1 i.2).choose_spec⟩;obtain⟨f,hf⟩:=hch;have hlen:(List.ofFn f).length=len:=by simp
  refine⟨(some a,cap,List.ofFn f),by simp[yZ3],?_,?_,by show (List.ofFn f).length≤cap;omega,by show (List.ofFn f).length≤B;omega⟩
  ·exact vC
  ·intro z hz;obtain⟨i,rfl⟩:=List.mem_ofFn.1 hz;exact(hf i).2
theorem zR1 {H:Type}{en:TypeId × Value→H}{sp:Nat→Bool}{held:Bool}{fuel:Nat}{cs:List Value}{x:DataW H × List MemPlace}{t:TypeId}{fs:Array Field}(ht:P.underlying t=some (.struct fs))(h:DataW.trod en P w 0 sp held fuel t cs=some x)(hB:Rows.uptoBulk x.1≤B) :
  cs.length=P.cellsOf t∧∀ (i:Nat) (f:Field),fs[i]? = some f→∃ (n:Nat) (y:DataW H × List MemPlace),DataW.trod en P w 0 sp held n f.type ((cs.drop f.offset).take (P.cellsOf f.type))=some y∧Rows.uptoBulk y.1≤B:=by
 obtain⟨xs,n,_,rfl,hl,hx,hf⟩:=DataW.trod_struct ht h;refine⟨hl,fun i f hi=>?_⟩;have hlt:i < xs.length:=by
  rw[hx];exact(Array.getElem?_eq_some_iff.1 hi).1
 have g:=hf i f hi;rw[List.getElem?_eq_getElem hlt] at g;exact⟨n,_,g,yQ9 (List.getElem?_eq_getElem hlt) hB⟩
theorem yZ4 {t e:TypeId}(ht:P.underlying t=some (.array 2 e))(hT:P.cellsOf t=2)(he:P.underlying e=some .string)(hC:P.cellsOf e=1):zK8 P w B t (fun y:List UInt8 × List UInt8=>[.string ⟨y.1.toArray⟩,.string ⟨y.2.toArray⟩]) (fun y=>y.1.length≤B∧y.2.length≤B):=by
 intro H en sp held fuel cs x h hB;obtain⟨xs,m,_,rfl,hl,hx,hf⟩:=DataW.trod_array ht h;have g0:=hf 0 (by decide);have g1:=hf 1 (by decide);rw[zD9 hx 0 (by decide)] at g0;rw[zD9 hx 1 (by decide)] at g1;obtain⟨y0,e0,k0⟩:=zX2 he _ _ _ _ _ _ _ g0 (yQ9 (zD9 hx 0 (by decide)) hB);obtain⟨y1,e1,k1⟩:=zX2 he _ _ _ _ _ _ _ g1 (yQ9 (zD9 hx 1 (by decide)) hB);rw[hT] at hl;match cs,hl with
 | [c0,c1],_=>
   simp[hC] at e0 e1;subst e0 e1;exact⟨(y0,y1),rfl,k0,k1⟩
end
def wfI (n:Int):Prop:=(Lit.int .i64 n).wf=true
mutual
def InE (w:World)(B:Nat):EA→Prop
 | .mk k t n a b As cs subs Ad cd decls At ct tail pos=>wfI k∧t.length≤B∧wfI n∧a.length≤B∧b.length≤B∧(Sl w w.heap.size 9 encE As subs∧subs.length≤cs∧subs.length≤B)∧InEs w B subs∧(Sl w w.heap.size 11 encD Ad decls∧decls.length≤cd∧decls.length≤B)∧InDs w B decls∧(Sl w w.heap.size 1 encS At tail∧tail.length≤ct∧tail.length≤B∧∀ s∈tail,s.length≤B)∧wfI pos
def InEs (w:World)(B:Nat):List EA→Prop
 | []=>True
 | x ::l=>InE w B x∧InEs w B l
def InD (w:World)(B:Nat):DA→Prop
 | .mk k p l a b As cs subs Ab cb body At ct tail Al cl lead trail pos=>wfI k∧wfI p∧l.length≤B∧a.length≤B∧b.length≤B∧(Sl w w.heap.size 9 encE As subs∧subs.length≤cs∧subs.length≤B)∧InEs w B subs∧(Sl w w.heap.size 11 encD Ab body∧body.length≤cb∧body.length≤B)∧InDs w B body∧(Sl w w.heap.size 1 encS At tail∧tail.length≤ct∧tail.length≤B∧∀ s∈tail,s.length≤B)∧(Sl w w.heap.size 1 encS Al lead∧lead.length≤cl∧lead.length≤B∧∀ s∈lead,s.length≤B)∧trail.length≤B∧wfI pos
def InDs (w:World)(B:Nat):List DA→Prop
 | []=>True
 | x ::l=>InD w B x∧InDs w B l
end
theorem inEs {w:World}{B:Nat}:∀ {l:List EA}(_:∀ z∈l,InE w B z),InEs w B l
 | [],_=>trivial
 | x ::_,h=>⟨h x (by simp),inEs fun z hz=>h z (by simp[hz])⟩
theorem inDs {w:World}{B:Nat}:∀ {l:List DA}(_:∀ z∈l,InD w B z),InDs w B l
 | [],_=>trivial
 | x ::_,h=>⟨h x (by simp),inDs fun z hz=>h z (by simp[hz])⟩
structure TreeT (P:Program)(tE tD tS:TypeId) where
 (e0 e1 e2 e3 e4 e5 e6 e7:Field)
 hE:P.underlying tE=some (.struct #[e0,e1,e2,e3,e4,e5,e6,e7])
 cE:P.cellsOf tE=9
 qe0:e0.offset=0∧P.cellsOf e0.type=1∧P.underlying e0.type=some (.int .i64)
 qe1:e1.offset=1∧P.cellsOf e1.type=1∧P.underlying e1.type=some .string
 qe2:e2.offset=2∧P.cellsOf e2.type=1∧P.underlying e2.type=some (.int .i64)
 qe3:e3.offset=3∧P.cellsOf e3.type=2∧P.underlying e3.type=some (.array 2 tS)
 qe4:e4.offset=5∧P.cellsOf e4.type=1∧P.underlying e4.type=some (.slice tE)
 qe5:e5.offset=6∧P.cellsOf e5.type=1∧P.underlying e5.type=some (.slice tD)
 qe6:e6.offset=7∧P.cellsOf e6.type=1∧P.underlying e6.type=some (.slice tS)
 qe7:e7.offset=8∧P.cellsOf e7.type=1∧P.underlying e7.type=some (.int .i64)
 (d0 d1 d2 d3 d4 d5 d6 d7 d8 d9:Field)
 hD:P.underlying tD=some (.struct #[d0,d1,d2,d3,d4,d5,d6,d7,d8,d9])
 cD:P.cellsOf tD=11
 qd0:d0.offset=0∧P.cellsOf d0.type=1∧P.underlying d0.type=some (.int .i64)
 qd1:d1.offset=1∧P.cellsOf d1.type=1∧P.underlying d1.type=some (.int .i64)
 qd2:d2.offset=2∧P.cellsOf d2.type=1∧P.underlying d2.type=some .string
 qd3:d3.offset=3∧P.cellsOf d3.type=2∧P.underlying d3.type=some (.array 2 tS)
 qd4:d4.offset=5∧P.cellsOf d4.type=1∧P.underlying d4.type=some (.slice tE)
 qd5:d5.offset=6∧P.cellsOf d5.type=1∧P.underlying d5.type=some (.slice tD)
 qd6:d6.offset=7∧P.cellsOf d6.type=1∧P.underlying d6.type=some (.slice tS)
 qd7:d7.offset=8∧P.cellsOf d7.type=1∧P.underlying d7.type=some (.slice tS)
 qd8:d8.offset=9∧P.cellsOf d8.type=1∧P.underlying d8.type=some .string
 qd9:d9.offset=10∧P.cellsOf d9.type=1∧P.underlying d9.type=some (.int .i64)
 hS:P.underlying tS=some .string
 cS:P.cellsOf tS=1
theorem yI3 {P:Program}{w:World}{tE tD tS:TypeId}(X:TreeT P tE tD tS)(B:Nat):∀ B',B'≤B→zK8 P w B' tE encE (InE w B)∧zK8 P w B' tD encD (InD w B):=by
 intro B';induction B' using Nat.strongRecOn with
 | _ B' ih=>
   intro hB;have sE:∀ t,P.underlying t=some (.slice tE)→zK8 P w B' t (yZ3 (α:=EA)) (SlOk w B' 9 encE (InE w B)):=fun t ht=>zD1 ht X.cE (by decide) zN0 fun b hb=>(ih b hb qG).1;have sD:∀ t,P.underlying t=some (.slice tD)→zK8 P w B' t (yZ3 (α:=DA)) (SlOk w B' 11 encD (InD w B)):=fun t ht=>zD1 ht X.cD (by decide) zN1 fun b hb=>(ih b hb qG).2;have sS:∀ t,P.underlying t=some (.slice tS)→zK8 P w B' t (yZ3 (α:=List UInt8)) (SlOk w B' 1 encS (fun s=>s.length≤B')):=fun t ht=>zP0 ht X.cS (by decide) (fun _=>rfl) (zX2 X.hS);constructor
   ·intro H en sp held fuel cs x h hb;obtain⟨hl,hp⟩:=zR1 X.hE h hb;rw[X.cE] at hl;obtain⟨n0,y0,t0,b0⟩:=hp 0 X.e0 rfl;rw[X.qe0.1,X.qe0.2.1] at t0;obtain⟨z0,g0,k0⟩:=zQ9 (B:=B') (w:=w) X.qe0.2.2 _ _ _ _ _ _ _ t0 b0;obtain⟨n1,y1,t1,b1⟩:=hp 1 X.e1 rfl;rw[X.qe1.1,X.qe1.2.1] at t1;obtain⟨z1,g1,k1⟩:=zX2 (B:=B') X.qe1.2.2 _ _ _ _ _ _ _ t1 b1;obtain⟨n2,y2,t2,b2⟩:=hp 2 X.e2 rfl;rw[X.qe2.1,X.qe2.2.1] at t2;obtain⟨z2,g2,k2⟩:=zQ9 (B:=B') (w:=w) X.qe2.2.2 _ _ _ _ _ _ _ t2 b2;obtain⟨n3,y3,t3,b3⟩:=hp 3 X.e3 rfl;rw[X.qe3.1,X.qe3.2.1] at t3;obtain⟨z3,g3,k3⟩:=yZ4 (B:=B') X.qe3.2.2 X.qe3.2.1 X.hS X.cS _ _ _ _ _ _ _ t3 b3;obtain⟨n4,y4,t4,b4⟩:=hp 4 X.e4 rfl;rw[X.qe4.1,X.qe4.2.1] at t4;obtain⟨z4,g4,k4⟩:=sE _ X.qe4.2.2 _ _ _ _ _ _ _ t4 b4;obtain⟨n5,y5,t5,b5⟩:=hp 5 X.e5 rfl;rw[X.qe5.1,X.qe5.2.1] at t5;obtain⟨z5,g5,k5⟩:=sD _ X.qe5.2.2 _ _ _ _ _ _ _ t5 b5;obtain⟨n6,y6,t6,b6⟩:=hp 6 X.e6 rfl;rw[X.qe6.1,X.qe6.2.1] at t6;obtain⟨z6,g6,k6⟩:=sS _ X.qe6.2.2 _ _ _ _ _ _ _ t6 b6;obtain⟨n7,y7,t7,b7⟩:=hp 7 X.e7 rfl;rw[X.qe7.1,X.qe7.2.1] at t7;obtain⟨z7,g7,k7⟩:=zQ9 (B:=B') (w:=w) X.qe7.2.2 _ _ _ _ _ _ _ t7 b7;match cs,hl with
    | [v0,v1,v2,v3,v4,v5,v6,v7,v8],_=>
      simp[yZ3] at g0 g1 g2 g3 g4 g5 g6 g7;obtain⟨g3,g3b⟩:=g3;subst g0 g1 g2 g3 g3b g4 g5 g6 g7;exact⟨.mk z0 z1 z2 z3.1 z3.2 z4.1 z4.2.1 z4.2.2 z5.1 z5.2.1 z5.2.2 z6.1 z6.2.1 z6.2.2 z7,rfl,k0,Nat.le_trans k1 hB,k2,Nat.le_trans k3.1 hB,Nat.le_trans k3.2 hB,⟨k4.1,k4.2.2.1,Nat.le_trans k4.2.2.2 hB⟩,inEs k4.2.1,⟨k5.1,k5.2.2.1,Nat.le_trans k5.2.2.2 hB⟩,inDs k5.2.1,⟨k6.1,k6.2.2.1,Nat.le_trans k6.2.2.2 hB,fun s hs=>Nat.le_trans (k6.2.1 s hs) hB⟩,k7⟩
   ·intro H en sp held fuel cs x h hb;obtain⟨hl,hp⟩:=zR1 X.hD h hb;rw[X.cD] at hl;obtain⟨n0,y0,t0,b0⟩:=hp 0 X.d0 rfl;rw[X.qd0.1,X.qd0.2.1] at t0;obtain⟨z0,g0,k0⟩:=zQ9 (B:=B') (w:=w) X.qd0.2.2 _ _ _ _ _ _ _ t0 b0;obtain⟨n1,y1,t1,b1⟩:=hp 1 X.d1 rfl;rw[X.qd1.1,X.qd1.2.1] at t1;obtain⟨z1,g1,k1⟩:=zQ9 (B:=B') (w:=w) X.qd1.2.2 _ _ _ _ _ _ _ t1 b1;obtain⟨n2,y2,t2,b2⟩:=hp 2 X.d2 rfl;rw[X.qd2.1,X.qd2.2.1] at t2;obtain⟨z2,g2,k2⟩:=zX2 (B:=B') X.qd2.2.2 _ _ _ _ _ _ _ t2 b2;obtain⟨n3,y3,t3,b3⟩:=hp 3 X.d3 rfl;rw[X.qd3.1,X.qd3.2.1] at t3;obtain⟨z3,g3,k3⟩:=yZ4 (B:=B') X.qd3.2.2 X.qd3.2.1 X.hS X.cS _ _ _ _ _ _ _ t3 b3;obtain⟨n4,y4,t4,b4⟩:=hp 4 X.d4 rfl;rw[X.qd4.1,X.qd4.2.1] at t4;obtain⟨z4,g4,k4⟩:=sE _ X.qd4.2.2 _ _ _ _ _ _ _ t4 b4;obtain⟨n5,y5,t5,b5⟩:=hp 5 X.d5 rfl;rw[X.qd5.1,X.qd5.2.1] at t5;obtain⟨z5,g5,k5⟩:=sD _ X.qd5.2.2 _ _ _ _ _ _ _ t5 b5;obtain⟨n6,y6,t6,b6⟩:=hp 6 X.d6 rfl;rw[X.qd6.1,X.qd6.2.1] at t6;obtain⟨z6,g6,k6⟩:=sS _ X.qd6.2.2 _ _ _ _ _ _ _ t6 b6;obtain⟨n7,y7,t7,b7⟩:=hp 7 X.d7 rfl;rw[X.qd7.1,X.qd7.2.1] at t7;obtain⟨z7,g7,k7⟩:=sS _ X.qd7.2.2 _ _ _ _ _ _ _ t7 b7;obtain⟨n8,y8,t8,b8⟩:=hp 8 X.d8 rfl;rw[X.qd8.1,X.qd8.2.1] at t8;obtain⟨z8,g8,k8⟩:=zX2 (B:=B') X.qd8.2.2 _ _ _ _ _ _ _ t8 b8;obtain⟨n9,y9,t9,b9⟩:=hp 9 X.d9 rfl;rw[X.qd9.1,X.qd9.2.1] at t9;obtain⟨z9,g9,k9⟩:=zQ9 (B:=B') (w:=w) X.qd9.2.2 _ _ _ _ _ _ _ t9 b9;match cs,hl with
    | [v0,v1,v2,v3,v4,v5,v6,v7,v8,v9,v10],_=>
      simp[yZ3] at g0 g1 g2 g3 g4 g5 g6 g7 g8 g9;obtain⟨g3,g3b⟩:=g3;subst g0 g1 g2 g3 g3b g4 g5 g6 g7 g8 g9;exact⟨.mk z0 z1 z2 z3.1 z3.2 z4.1 z4.2.1 z4.2.2 z5.1 z5.2.1 z5.2.2 z6.1 z6.2.1 z6.2.2 z7.1 z7.2.1 z7.2.2 z8 z9,rfl,k0,k1,Nat.le_trans k2 hB,Nat.le_trans k3.1 hB,Nat.le_trans k3.2 hB,⟨k4.1,k4.2.2.1,Nat.le_trans k4.2.2.2 hB⟩,inEs k4.2.1,⟨k5.1,k5.2.2.1,Nat.le_trans k5.2.2.2 hB⟩,inDs k5.2.1,⟨k6.1,k6.2.2.1,Nat.le_trans k6.2.2.2 hB,fun s hs=>Nat.le_trans (k6.2.1 s hs) hB⟩,⟨k7.1,k7.2.2.1,Nat.le_trans k7.2.2.2 hB,fun s hs=>Nat.le_trans (k7.2.1 s hs) hB⟩,Nat.le_trans k8 hB,k9⟩
def zY3 (l:List Tx):Nat:=l.foldl (fun n s=>min (n+s.length) 10000) 0
theorem yZ5 (l:List Tx)(x:Tx):zY3 (l++ [x])=min (zY3 l+x.length) 10000:=by unfold zY3;rw[List.foldl_append];rfl
theorem zR2 (l:List Tx):zY3 l≤10000:=by
 rcases List.eq_nil_or_concat l with rfl | ⟨m,x,rfl⟩
 ·exact Nat.zero_le _
 ·rw[List.concat_eq_append,yZ5];exact Nat.min_le_right _ _
mutual
def zI9:E→Int→Int
 | .mk _ t _ a b subs decls tail _,n=>zY6 decls (zX4 subs (n-1-tail.length-(zY3 [t,a,b] / 20:Nat)-(zY3 tail / 20:Nat)))
def zX4:List E→Int→Int
 | [],n=>n
 | x ::l,n=>zX4 l (if 0≤n then zI9 x n else n)
def yY4:D→Int→Int
 | .mk _ _ l a b subs body tail lead trail _,n=>zY6 body (zX4 subs (n-1-lead.length-tail.length-(zY3 [l,a,b,trail] / 20:Nat)-(zY3 lead / 20:Nat)-(zY3 tail / 20:Nat)))
def zY6:List D→Int→Int
 | [],n=>n
 | x ::l,n=>if n < 0 then n else zY6 l (yY4 x n)
end
theorem yA6:∀ (l:List D){n:Int},n < 0→zY6 l n=n
 | [],_,_=>by rw[zY6]
 | _ ::_,_,h=>by rw[zY6,if_pos h]
theorem yV4:∀ (l:List E){n:Int},n < 0→zX4 l n=n
 | [],_,_=>by rw[zX4]
 | _ ::l,_,h=>by rw[zX4,if_neg qG];exact yV4 l h
theorem zH0:∀ (l:List E)(x:E)(n:Int),zX4 (l++ [x]) n=if 0≤zX4 l n then zI9 x (zX4 l n) else zX4 l n
 | [],x,n=>by rw[List.nil_append,zX4,zX4,zX4]
 | y ::l,x,n=>by rw[List.cons_append,zX4,zX4,zH0 l x]
theorem yZ6:∀ (l:List D)(x:D)(n:Int),zY6 (l++ [x]) n=if zY6 l n < 0 then zY6 l n else yY4 x (zY6 l n)
 | [],x,n=>by
   rw[List.nil_append,zY6,zY6];split
   ·rfl
   ·rw[zY6]
 | y ::l,x,n=>by
   rw[List.cons_append,zY6,zY6];split
   ·rfl
   ·exact yZ6 l x _
theorem yV5:∀ (l r:List D)(n:Int),zY6 l n < 0→zY6 (l++r) n=zY6 l n
 | [],r,n,h=>by
   rw[List.nil_append];rw[zY6] at h ⊢;exact yA6 r h
 | y ::l,r,n,h=>by
   rw[List.cons_append,zY6];rw[zY6] at h ⊢;split at h
   ·rename_i h2;rw[if_pos h2,if_pos h2]
   ·rename_i h2;rw[if_neg h2,if_neg h2];exact yV5 l r _ h
mutual
theorem yP0:∀ (e:E)(n:Int),zI9 e n < n
 | .mk _ t _ a b subs decls tail _,n=>by
   rw[zI9];have h1:=zP1 decls (zX4 subs (n-1-tail.length-(zY3 [t,a,b] / 20:Nat)-(zY3 tail / 20:Nat)));have h2:=zL5 subs (n-1-tail.length-(zY3 [t,a,b] / 20:Nat)-(zY3 tail / 20:Nat));omega
theorem zL5:∀ (l:List E)(n:Int),zX4 l n≤n
 | [],n=>by rw[zX4];exact Int.le_refl _
 | x ::l,n=>by
   rw[zX4];split
   ·have h1:=zL5 l (zI9 x n);have h2:=yP0 x n;omega
   ·exact zL5 l n
theorem costD_le:∀ (d:D)(n:Int),yY4 d n < n
 | .mk _ _ l a b subs body tail lead trail _,n=>by
   rw[yY4];have h1:=zP1 body (zX4 subs (n-1-lead.length-tail.length-(zY3 [l,a,b,trail] / 20:Nat)-(zY3 lead / 20:Nat)-(zY3 tail / 20:Nat)));have h2:=zL5 subs (n-1-lead.length-tail.length-(zY3 [l,a,b,trail] / 20:Nat)-(zY3 lead / 20:Nat)-(zY3 tail / 20:Nat));omega
theorem zP1:∀ (l:List D)(n:Int),zY6 l n≤n
 | [],n=>by rw[zY6];exact Int.le_refl _
 | x ::l,n=>by
   rw[zY6];split
   ·exact Int.le_refl _
   ·have h1:=zP1 l (yY4 x n);have h2:=costD_le x n;omega
end
theorem zP7 {w w':World}{B:Nat}(hb:Below w.heap.size w w'):(∀ e,InE w B e→InE w' B e)∧(∀ d,InD w B d→InD w' B d)∧(∀ l,InEs w B l→InEs w' B l)∧∀ l,InDs w B l→InDs w' B l:=
 have k:∀ {α:Type} {n:Nat} {enc:α→List Value} {A:Option Addr} {l:List α},Sl w w.heap.size n enc A l→Sl w' w'.heap.size n enc A l:=fun h=>(h.below hb).more hb.size
 zY9
  (fun _ _ _ _ _ _ _ _ _ _ _ _ _ _ _ g1 g2 h=>by
   rw[InE] at h ⊢;obtain⟨h1,h2,h3,h4,h5,⟨h6,h7⟩,h8,⟨h9,h10⟩,h11,⟨h12,h13⟩,h14⟩:=h;exact⟨h1,h2,h3,h4,h5,⟨k h6,h7⟩,g1 h8,⟨k h9,h10⟩,g2 h11,⟨k h12,h13⟩,h14⟩)
  (fun _ _ _ _ _ _ _ _ _ _ _ _ _ _ _ _ _ _ _ g1 g2 h=>by
   rw[InD] at h ⊢;obtain⟨h1,h2,h3,h4,h5,⟨h6,h7⟩,h8,⟨h9,h10⟩,h11,⟨h12,h13⟩,⟨h14,h15⟩,h16⟩:=h;exact⟨h1,h2,h3,h4,h5,⟨k h6,h7⟩,g1 h8,⟨k h9,h10⟩,g2 h11,⟨k h12,h13⟩,⟨k h14,h15⟩,h16⟩)
  (fun _=>trivial) (fun _ _ h1 h2 h=>⟨h1 h.1,h2 h.2⟩) (fun _=>trivial) (fun _ _ h1 h2 h=>⟨h1 h.1,h2 h.2⟩)
theorem yI4 {w:World}{B:Nat}:∀ {l:List EA}(_:InEs w B l){e:EA}(_:e∈l),InE w B e
 | _ ::_,h,_,he=>by
   rcases List.mem_cons.1 he with rfl | he
   ·exact h.1
   ·exact yI4 h.2 he
theorem xT3 {w:World}{B:Nat}:∀ {l:List DA}(_:InDs w B l){e:DA}(_:e∈l),InD w B e
 | _ ::_,h,_,he=>by
   rcases List.mem_cons.1 he with rfl | he
   ·exact h.1
   ·exact xT3 h.2 he
set_option maxRecDepth 100000 in
set_option maxHeartbeats 1000000 in
theorem zP2 (A:Option Addr)(c:Nat)(l:List Tx)(w:World)(hA:Sl w w.heap.size 1 encS A l)(hl:l.length≤1099511627776)(hs:∀ s∈l,s.length≤1099511627776) :
  Calls Tryz.prog 69 #[.slice A l.length c] w fun e w'=>e=.returned (.int .i64 (zY3 l:Nat))∧w'=w:=by
 have HA:=qK hA;have HS:=qK hs;clear hA hs;go_enter Tryz.func69,Tryz.ntmps69
 go_wp2;go_loopw [3,8] (fun nv iv wq=>∃ i:Nat,i≤l.length∧iv=.int .i64 (i:Nat)∧nv=.int .i64 (zY3 (l.take i):Nat)∧wq=w) (fun _ iv _=>l.length-(intOf iv).toNat)
 case atStart=>exact⟨0,Nat.zero_le _,rfl,rfl,rfl⟩
 case round=>
  obtain⟨i,hi,rfl,rfl,rfl⟩:=hrel;by_cases hlt:i < l.length
  ·have hlt':(i:Int) < (l.length:Int):=by omega
   obtain⟨bb,off,hAA,hbW,hc⟩:=HA.out.str hlt;have hx:=HS.out _ (List.getElem_mem hlt);have HTk:=qK (show zY3 (l.take (i+1))=min (zY3 (l.take i)+(l[i]).length) 10000 from by rw[List.take_succ_eq_append_getElem hlt,yZ5]);have hle:=zR2 (l.take i);generalize l[i]=x at hc hx HTk;generalize zY3 (l.take i)=n at HTk hle ⊢;have hmc:min ((n:Int)+(x.length:Int)) 10000=((min (n+x.length) 10000:Nat):Int):=by omega
   have hmc2:min 10000 ((n:Int)+(x.length:Int))=((min (n+x.length) 10000:Nat):Int):=by omega
   go_wp2;go_roundw
   case rel=>exact⟨i+1,by omega,by go_num,by rw[HTk.out] <;> first | rfl | rw[hmc] | rw[hmc2],trivial⟩
   case measure=>simp[intOf];omega
  ·obtain rfl:i=l.length:=by omega
   rw[List.take_length];go_wp2;go_ret;exact⟨rfl,rfl⟩
theorem sl_strs3 (t a b:Tx)(W:World):Sl (W.alloc (.cells #[.string ⟨t.toArray⟩,.string ⟨a.toArray⟩,.string ⟨b.toArray⟩] 9)) (W.alloc (.cells #[.string ⟨t.toArray⟩,.string ⟨a.toArray⟩,.string ⟨b.toArray⟩] 9)).heap.size 1 encS (some ⟨W.heap.size,0,none⟩) [t,a,b]:=by
 have h:=Blk.new W 9 #[.string ⟨t.toArray⟩,.string ⟨a.toArray⟩,.string ⟨b.toArray⟩];refine .inr ⟨_,0,rfl,h.lt,fun i hi j v hv=>?_⟩;have hj:j=0:=by
  have:=(List.getElem?_eq_some_iff.1 hv).1;simp only[encS,List.length_cons,List.length_nil] at this;omega
 subst hj;rw[Nat.zero_add,Nat.add_zero,Nat.mul_one,h.cell];match i,hi with
 | 0,_=>exact hv
 | 1,_=>exact hv
 | 2,_=>exact hv
 | n+3,hi=>simp only[List.length_cons,List.length_nil] at hi;omega
def CoOk (e:EA):Prop:=∀ (B:Nat) (left:Int) (w:World),B≤1099511627776→0≤left→left≤150→InE w B e→
 Calls Tryz.prog 110 #[.agg (encE e).toArray,.int .i64 left] w fun r w'=>r=.returned (.int .i64 (zI9 (plE e) left))∧Below w.heap.size w w'
def CdOk (l:List DA):Prop:=∀ (A:Option Addr) (c B:Nat) (left:Int) (w:World),B≤1099511627776→left≤150→Sl w w.heap.size 11 encD A l→l.length≤B→InDs w B l→
 Calls Tryz.prog 70 #[.slice A l.length c,.int .i64 left] w fun r w'=>r=.returned (.int .i64 (zY6 (plDs l) left))∧Below w.heap.size w w'
set_option maxRecDepth 100000 in
theorem zG8 {o:Oper}{P:Program}{Q:Exit→Act→World→Prop}{K:Act→World→Prop}{W:World}{fs:List Fact}{G:Act→Prop}{aa ab ac ad ae af ag ah ai aj ak al am an ao ap aq ar au av aw ax ay az aA aB aC aD aE aF aG aH aI aJ aK aL aM aN aO aP aQ aR aS aT aU aV aW aX aY aZ a0 a1 a2 a3 a4 a5 a6 a7 a8 a9 ba bb bc bd be bf bg bh bi bj:Value}(hG:∀ A,o.wp P A W K Q→G A)(h:o.wp P (Act.mk #[aa,ab,ac,ad,ae,af,ag,aX,aY,aZ,a0,a1,a2,a3,a4,a5,a6,a7,a8,a9,ba,bb,bc,bd,be,bf,bg,bh,bi,bj,aG,aH,aI,aJ,aK,aL,aM,aN,aO,aP,aQ,aR,aS,aT,aU,aV,aW] []) W K Q):zY0 W G [] fs (Act.put (Act.put (Act.put (Act.put (Act.put (Act.put (Act.put (Act.put (Act.put (Act.put (Act.put (Act.put (Act.put (Act.put (Act.put (Act.put (Act.put (Act.put (Act.put (Act.put (Act.put (Act.put (Act.put (Act.mk #[aa,ab,ac,ad,ae,af,ag,ah,ai,aj,ak,al,am,an,ao,ap,aq,ar,au,av,aw,ax,ay,az,aA,aB,aC,aD,aE,aF,aG,aH,aI,aJ,aK,aL,aM,aN,aO,aP,aQ,aR,aS,aT,aU,aV,aW] []) (some 7) aX) (some 8) aY) (some 9) aZ) (some 10) a0) (some 11) a1) (some 12) a2) (some 13) a3) (some 14) a4) (some 15) a5) (some 16) a6) (some 17) a7) (some 18) a8) (some 19) a9) (some 20) ba) (some 21) bb) (some 22) bc) (some 23) bd) (some 24) be) (some 25) bf) (some 26) bg) (some 27) bh) (some 28) bi) (some 29) bj):=
 zV2 qF hG h
set_option maxRecDepth 100000 in
set_option maxHeartbeats 4000000 in
theorem yI5 {k:Int}{t:Tx}{m:Int}{a b:Tx}{As:Option Addr}{cs:Nat}{subs:List EA}{Ad:Option Addr}{cd:Nat}{decls:List DA}{At:Option Addr}{ct:Nat}{tail:List Tx}{pos:Int}(hE:∀ x∈subs,CoOk x)(hD:CdOk decls):CoOk (.mk k t m a b As cs subs Ad cd decls At ct tail pos):=by
 intro B left w hBB hl0 hl1 hIn;have hb:=(Below.refl w.heap.size w).alloc qJ (.cells #[.int .i64 k,.string ⟨t.toArray⟩,.int .i64 m,.string ⟨a.toArray⟩,.string ⟨b.toArray⟩,.slice As subs.length cs,.slice Ad decls.length cd,.slice At tail.length ct,.int .i64 pos] 67);have HBx:=qK (Blk.new w 67 #[.int .i64 k,.string ⟨t.toArray⟩,.int .i64 m,.string ⟨a.toArray⟩,.string ⟨b.toArray⟩,.slice As subs.length cs,.slice Ad decls.length cd,.slice At tail.length ct,.int .i64 pos]);have HW:=qK hb;have hI:=(zP7 hb).1 _ hIn;rw[InE] at hI;obtain⟨_,ht,_,ha,hbl,⟨hS,_,hsl⟩,hIs,⟨hSd,_,hsd⟩,hId,⟨hSt,_,hst,htl⟩,_⟩:=hI;have hsl2:subs.length≤1099511627776:=by omega
 have htl2:tail.length≤1099511627776:=by omega
 obtain⟨L0,hL0⟩:∃ L0:Int,L0=left-1-tail.length-(zY3 [t,a,b] / 20:Nat)-(zY3 tail / 20:Nat):=⟨_,rfl⟩;rw[show zI9 (plE (.mk k t m a b As cs subs Ad cd decls At ct tail pos)) left=zY6 (plDs decls) (zX4 (plEs subs) L0) from by rw[hL0];rfl];have q1:=zR2 [t,a,b];have q2:=zR2 tail;have HS:=qK hS;have HIs:=qK hIs;have HSd:=qK hSd;have HId:=qK hId;have HE:=qK hE;have HD:=qK hD;have HBB:=qK (show B≤1099511627776∧decls.length≤B from⟨hBB,hsd⟩);have hL1:L0≤149:=by omega
 simp only[encE];go_enter Tryz.func110,Tryz.ntmps110
 go_upto_region 1 with fail
 generalize hw1:w.alloc (.cells #[.int .i64 k,.string ⟨t.toArray⟩,.int .i64 m,.string ⟨a.toArray⟩,.string ⟨b.toArray⟩,.slice As subs.length cs,.slice Ad decls.length cd,.slice At tail.length ct,.int .i64 pos] 67)=w1 at HBx HW HS HIs HSd HId hSt ⊢;clear hw1;have HS1:=qK (fun(g:Nat) (W:World) (h:Sl W W.heap.size 1 encS (some ⟨g,0,none⟩) [t,a,b])=>zP2 (some ⟨g,0,none⟩) 3 [t,a,b] W h (by simp) (fun s hs=>by
  simp only[List.mem_cons,List.not_mem_nil,or_false] at hs;rcases hs with rfl | rfl | rfl <;> omega))
 have HS2:=qK (fun(W:World) (h:Below w1.heap.size w1 W)=>zP2 At ct tail W ((hSt.below h).more h.size) htl2 (fun s hs=>by have:=htl s hs;omega));have HBl:=qK (show w.heap.size < w1.heap.size from HBx.out.lt);generalize zY3 [t,a,b]=n1 at HS1 hL0 q1;generalize zY3 tail=n2 at HS2 hL0 q2;have t1:(n1:Int).tdiv 20=((n1 / 20:Nat):Int):=rfl;have t2:(n2:Int).tdiv 20=((n2 / 20:Nat):Int):=rfl;obtain⟨m1,hm1⟩:∃ m1,m1=n1 / 20:=⟨_,rfl⟩;obtain⟨m2,hm2⟩:∃ m2,m2=n2 / 20:=⟨_,rfl⟩;rw[←hm1] at t1 hL0;rw[←hm2] at t2 hL0;have r1:m1≤500:=by omega
 have r2:m2≤500:=by omega
 have wq:∀ x:Int,-9223372036854775808≤x→x≤9223372036854775807→IntKind.i64.wrap x=x:=fun x h1 h2=>by
  simp[IntKind.wrap,IntKind.bits,IntKind.signed];omega
 have HL0:=qK (show IntKind.i64.wrap (IntKind.i64.wrap (IntKind.i64.wrap (IntKind.i64.wrap (left-1)-tail.length)-IntKind.i64.wrap (m1:Nat))-IntKind.i64.wrap (m2:Nat))=L0 from by
  rw[wq (left-1) qG qG,wq (m1:Nat) qG qG,wq (m2:Nat) qG qG,wq (left-1-tail.length) qG qG,wq (left-1-tail.length-(m1:Nat)) qG qG,wq _ qG qG,hL0])
 clear wq;clear hb hIn hE hD hS hIs hSd hId hSt hL0 hm1 hm2 ht ha hbl htl hBB hsl hsd hst;apply zZ5 qF [isv _,isv _,isv _,isv _,isv _,isv _,isv _,isv _,isv _,isv _,isv _,isv _,isv _,isv _,(fun x W=>∃ g:Nat,x=.slice (some ⟨g,0,none⟩) 3 3∧Sl W W.heap.size 1 encS (some ⟨g,0,none⟩) [t,a,b]),isv _,isv _,isv _,isv _,isv _,isv _,isv _,(isv (.int .i64 L0))] w1.heap.size w1 qJ qH.drew qF qF qF qF qF (qC (qC (qC (qC (qC (qC (qC (qC (qC (qC (qC (qC (qC (qC (qA (fun _ _ _ ⟨g,e,h⟩ hb=>⟨g,e,(h.below hb).more hb.size⟩) (qC (qC (qC (qC (qC (qC (qC (qC trivial))))))))))))))))))))))) ?steps (by rfl) _ rfl rfl ?fin;case steps=>
  refine qA (jN 23 1) (qA (qQ 0 7) (qA (qS 2) (qA (yS 2 9) (qA (qQ 3 10) (qA (qV 1 8 4 11) (qA (qS 2) (qA (jI 6 13) (qA (qS 2) (qA (qQ 8 15) (qA ?_ ?_))))))))))
  ·intro AA W KK QQ hB hs hd hl hk;obtain⟨_,sl16,rfl⟩:=hd 9 16 qF rfl;clear hs hd hl;have hx:=(HBx.out.keep hB).cell 3;go_simp;exact hk _ _ rfl qH
  refine qA (qS 2) (qA (qQ 11 18) (qA ?_ ?_))
  ·intro AA W KK QQ hB hs hd hl hk;obtain⟨_,sl19,rfl⟩:=hd 12 19 qF rfl;clear hs hd hl;have hx:=(HBx.out.keep hB).cell 4;go_simp;exact hk _ _ rfl qH
  refine qA ?_ ?_
  ·intro AA W KK QQ hB hs hd hl hk;obtain⟨_,sl14,rfl⟩:=hd 7 14 qF rfl;obtain⟨_,sl17,rfl⟩:=hd 10 17 qF rfl;obtain⟨_,sl20,rfl⟩:=hd 13 20 qF rfl;clear hs hd hl;go_simp;exact hk _ _ ⟨_,rfl,sl_strs3 t a b W⟩ (qH.alloc qJ _)
  exact qA (yJ 14 21) (qA (qQ 15 22) (qA (qV 5 12 16 23) (qA (qS 2) (qA (yS 18 25) (qA (yR 19 26) (qA (qQ 20 27) (qA (yI 17 24 21 28) trivial)))))))
 case fin=>
  intro w2 hB GG hGG
  iterate 14 refine qN ?_
  refine zZ4 21 rfl ?_;rintro _ ⟨_,rfl,_⟩
  iterate 7 refine qN ?_
  refine zZ4 29 rfl ?_;rintro _ rfl;refine zG8 hGG ?_;obtain⟨e0,e1,e2,e3,e4,e5,e6,e7,e8⟩:=zZ6 (HBx.out.keep hB);have HB2:=qK hB;clear hB HS1 HS2 HL0 t1 t2 q1 q2 r1 r2;go_simp;go_upto_region 3 with fail
  clear e0 e1 e2 e3 e4 e5 e6 e7 e8;go_loopw [1,33] (fun lv iv wq=>∃ (i:Nat) (L:Int),i≤subs.length∧iv=.int .i64 (i:Nat)∧lv=.int .i64 L∧Hid (zX4 ((subs.take i).map plE) L0=L)∧L≤149∧Hid (Below w1.heap.size w1 wq)) (fun _ iv _=>subs.length-(intOf iv).toNat)
  case atStart=>exact⟨0,L0,Nat.zero_le _,rfl,rfl,qK (by rw[List.take_zero,List.map_nil,zX4]),hL1,HB2⟩
  case round=>
   clear HB2;obtain⟨i,L,hi,rfl,rfl,HM,hL,HB⟩:=hrel;by_cases hlt:i < subs.length
   ·have hlt':(i:Int) < (subs.length:Int):=by omega
    obtain⟨bb,off,hA,hbW,hc⟩:=HS.out.at_ hlt;have HTk:=qK (show zX4 ((subs.take (i+1)).map plE) L0=if 0≤L then zI9 (plE subs[i]) L else L from by
     rw[List.take_succ_eq_append_getElem hlt,List.map_append,List.map_cons,List.map_nil,zH0,HM.out])
    have HOx:=qK (yI4 HIs.out (List.getElem_mem hlt));have HTx:=qK (HE.out _ (List.getElem_mem hlt));generalize subs[i]=x at hc HTk HOx HTx;have hxe:∃ xk xt xm xa xb xAs xcs xsubs xAd xcd xdecls xAt xct xtail xpos,x=.mk xk xt xm xa xb xAs xcs xsubs xAd xcd xdecls xAt xct xtail xpos:=by cases x;exact⟨_,_,_,_,_,_,_,_,_,_,_,_,_,_,_,rfl⟩
    obtain⟨xk,xt,xm,xa,xb,xAs,xcs,xsubs,xAd,xcd,xdecls,xAt,xct,xtail,xpos,rfl⟩:=hxe;have c0:=zZ0 HB.out hbW (hc 0 _ rfl);have c1:=zZ0 HB.out hbW (hc 1 _ rfl);have c2:=zZ0 HB.out hbW (hc 2 _ rfl);have c3:=zZ0 HB.out hbW (hc 3 _ rfl);have c4:=zZ0 HB.out hbW (hc 4 _ rfl);have c5:=zZ0 HB.out hbW (hc 5 _ rfl);have c6:=zZ0 HB.out hbW (hc 6 _ rfl);have c7:=zZ0 HB.out hbW (hc 7 _ rfl);have c8:=zZ0 HB.out hbW (hc 8 _ rfl);dsimp only[Nat.add_zero] at c0 c1 c2 c3 c4 c5 c6 c7 c8;have hba:=(Below.refl wr.heap.size wr).alloc qJ (.cells #[.int .i64 xk,.string ⟨xt.toArray⟩,.int .i64 xm,.string ⟨xa.toArray⟩,.string ⟨xb.toArray⟩,.slice xAs xsubs.length xcs,.slice xAd xdecls.length xcd,.slice xAt xtail.length xct,.int .i64 xpos] 67);have B1:=qK (Blk.new wr 67 #[.int .i64 xk,.string ⟨xt.toArray⟩,.int .i64 xm,.string ⟨xa.toArray⟩,.string ⟨xb.toArray⟩,.slice xAs xsubs.length xcs,.slice xAd xdecls.length xcd,.slice xAt xtail.length xct,.int .i64 xpos]);have HB1:=qK (HB.out.trans (hba.mono HB.out.size));go_upto_region 5 with fail
    clear c0 c1 c2 c3 c4 c5 c6 c7 c8 hbW hA hba hc HB;obtain⟨gx,hgx⟩:∃ gx,gx=wr.heap.size:=⟨_,rfl⟩;rw[←hgx] at B1 ⊢;generalize wr.alloc (.cells #[.int .i64 xk,.string ⟨xt.toArray⟩,.int .i64 xm,.string ⟨xa.toArray⟩,.string ⟨xb.toArray⟩,.slice xAs xsubs.length xcs,.slice xAd xdecls.length xcd,.slice xAt xtail.length xct,.int .i64 xpos] 67)=wb at B1 HB1 ⊢;clear hgx;obtain⟨e0,e1,e2,e3,e4,e5,e6,e7,e8⟩:=zZ6 B1.out;by_cases h0:0≤L
    ·have cT:=HTx.out B L wb HBB.out.1 h0 qG ((zP7 HB1.out).1 _ HOx.out);simp only[encE] at cT;have hle:=yP0 (plE (.mk xk xt xm xa xb xAs xcs xsubs xAd xcd xdecls xAt xct xtail xpos)) L;have HTy:=qK (HTk.out.trans (if_pos h0));generalize zI9 (plE (.mk xk xt xm xa xb xAs xcs xsubs xAd xcd xdecls xAt xct xtail xpos)) L=L2 at cT hle HTy;go_wp2_with fail
     refine cT.mono ?_;rintro r w4 ⟨rfl,hb4⟩;have HB4:=qK (HB1.out.trans (hb4.mono HB1.out.size));clear cT hb4 e0 e1 e2 e3 e4 e5 e6 e7 e8;go_wp2;go_roundw
     case rel=>exact⟨i+1,L2,by omega,by go_num,rfl,HTy,by omega,HB4⟩
     case measure=>simp[intOf];omega
    ·have HTy:=qK (HTk.out.trans (if_neg h0));go_wp2;go_roundw
     case rel=>exact⟨i+1,L,by omega,by go_num,rfl,HTy,hL,HB1⟩
     case measure=>simp[intOf];omega
   ·obtain rfl:i=subs.length:=by omega
    rw[List.take_length,←zX9] at HM;obtain⟨e0,e1,e2,e3,e4,e5,e6,e7,e8⟩:=zZ6 ((Kp.low HB.out).blk HBx.out (by have:=HBl.out;omega));have cD:=HD.out Ad cd B L wr HBB.out.1 qG ((HSd.out.below HB.out).more HB.out.size) HBB.out.2 ((zP7 HB.out).2.2.2 _ HId.out);go_wp2_with fail
    refine cD.mono ?_;rintro r w4 ⟨rfl,hb4⟩;have HB4:=qK (HW.out.trans ((HB.out.trans (hb4.mono HB.out.size)).mono HW.out.size));clear cD hb4 e0 e1 e2 e3 e4 e5 e6 e7 e8;go_wp2;go_ret;exact⟨by rw[HM.out];rfl,HB4.out⟩
end Go.Proofs.YtdgehhgjgifikaaGreatDoor
