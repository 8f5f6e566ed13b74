/- What the claim needs of:KJ KM KL. -/
import Derived.Test.YtdgehhgjgifikaaGreatDoorK38
namespace Go.Proofs.YtdgehhgjgifikaaGreatDoor
open Go.RowKit
theorem elReg:ElT Tryz.prog 231 233 6 64:=ElT.mk_ (z:=.agg #[.int .i64 0,.int .u64 0,.int .u64 0,.int .u64 0,.int .u64 0,.slice none 0 0]) Tryz.underlying231 qF qF (by decide)
theorem encR_one:∀ x,∀ v∈encR x,v.oneCell'=true:=fun x v hv=>by
 cases x;simp only[encR,List.mem_cons,List.not_mem_nil,or_false] at hv;rcases hv with rfl | rfl | rfl | rfl | rfl | rfl <;> rfl
theorem xS8 {P:Program}{o:Oper}{a:Act}{w:World}{K:Act→World→Prop}{Q:Exit→Act→World→Prop}(d s:Operand)(t t':TypeId)
  (ho:o.op=.call {callee:=.builtin .append,args:=#[d,s],argTypes:=#[t,t']}) (v u:Value) (hd:a.eval d=v) (hs:a.eval s=u) {v':Value} {w':World}
  (hr:(Builtin.append_ #[t,t'] o.type #[v,u]).run P w=.ok v' w')(h:K (a.put o.dst v') w'):o.wp P a w K Q:=by
 unfold Oper.wp execOp;simp only[ho,resolve,invoke,builtin,Sem.run_bind,Sem.run_pure,Result.andThen_ok,List.map_toArray,List.map_cons,List.map_nil,hd,hs,hr];exact h
theorem yV6 {w w':World}{N:Nat→Prop}{base e size n:Nat}{v:Value}{xs:List Value}(h:w.ownsRow base e size v n xs)(hk:Kp N w w')(hN:∀ b,v.ownBlock=some b→¬ N b):w'.ownsRow base e size v n xs:=by
 refine⟨h.1,?_⟩;rcases h.2 with h2 | ⟨g,cap,cur,rfl,hb,hg,h3⟩
 ·exact .inl h2
 ·exact .inr ⟨g,cap,cur,rfl,hb,hk.blk hg (hN g rfl),h3⟩
theorem row_app6 {w0 W:World}{base b n g:Nat}{v:Value}{xs:List Value}(h:w0.ownsRow base 233 6 v n xs)(hk:Kp (· = b) w0 W)(hb:b < base)(hz:Blk W g 233 #[.int .i64 0,.int .u64 0,.int .u64 0,.int .u64 0,.int .u64 0,.slice none 0 0])(hn:n≤1000)(hbs:base≤W.heap.size) :
  ∃ g7 c7 W7,(Builtin.append_ #[231,231] 231 #[v,.slice (some ⟨g,0,none⟩) 1 1]).run Tryz.prog W=.ok (.slice (some ⟨g7,0,none⟩) (n+1) c7) W7∧W7.ownsRow base 233 6 (.slice (some ⟨g7,0,none⟩) (n+1) c7) (n+1) (xs++ [.int .i64 0,.int .u64 0,.int .u64 0,.int .u64 0,.int .u64 0,.slice none 0 0])∧
    W.grownBy W7 v.ownBlock∧base≤g7∧(v.ownBlock=some g7∨g7=W.heap.size):=by
 have hrow:W.ownsRow base 233 6 v n xs:=yV6 h hk fun x hx e=>by have:=(h.lt x hx).1;omega
 obtain⟨ht,hsz,i,z,hi,hzz,hs,hby,hzs⟩:=elReg;obtain⟨v',w',hr,h2,h3,_,h5⟩:=run_append_own_at (P:=Tryz.prog) (w:=W) base 231 231 233 i z 6 64 ht hi hzz hs hby hzs hsz v n xs hrow ⟨g,0,none⟩ 1 1 [.int .i64 0,.int .u64 0,.int .u64 0,.int .u64 0,.int .u64 0,.slice none 0 0] rfl (fun j u hu=>by
  have e:(⟨g,0,none⟩:Addr).add j=⟨g,j,none⟩:=by cases j <;> simp[Addr.add]
  rw[e,hz.cell j,List.getElem?_toArray];exact hu) (fun u hu=>by
   simp only[List.mem_cons,List.not_mem_nil,or_false] at hu;rcases hu with rfl | rfl | rfl | rfl | rfl | rfl <;> rfl) (by simp only[maxLen];omega) qG hbs
 rcases h2.2 with ⟨_,h6⟩ | ⟨g7,c7,cur,rfl,hb7,h7⟩
 ·omega
 ·exact xL
structure AddA (w0:World)(b i:Nat)(s:Tx)(D:Nat→Bool)(A:Act)(W:World):Prop where
 k:Kp (· = b) w0 W
 p0:D 2=false→PB W b s i
 p2:D 2=true→∃ j r,j≤s.length∧PB W b s j∧OkR (fun x=>w0.heap.size≤x) W r∧Pr 4 [] (s.drop i) (some (htR r,s.drop j))∧A.tmps[4]? = some (.agg (encR r).toArray)
 z4:D 4=true→∃ g,A.tmps[6]? = some (.slice (some ⟨g,0,none⟩) 1 1)∧w0.heap.size≤g∧Blk W g 233 #[.int .i64 0,.int .u64 0,.int .u64 0,.int .u64 0,.int .u64 0,.slice none 0 0]
section
variable {w0 W W':World}{b i d q j n gl base:Nat}{s:Tx}{D:Nat→Bool}{A:Act}{r:RT}{v:Value}{L:List RT}
theorem AddA.far (h:AddA w0 b i s D A W)(h2:(2 == q)=false)(h4:(4 == q)=false)(d4:d≠4)(d6:d≠6)(u:Value):AddA w0 b i s (upd q D) (A.put (some d) u) W:=by
 have e2:upd q D 2=D 2:=by unfold upd;rw[h2,Bool.false_or]
 have e4:upd q D 4=D 4:=by unfold upd;rw[h4,Bool.false_or]
 exact⟨h.k,fun hd=>h.p0 (e2▸hd),fun hd=>by
  obtain⟨j,r,h1,h3,h5,h6,h7⟩:=h.p2 (e2▸hd);exact⟨j,r,h1,h3,h5,h6,by rw[zR6 d4];exact h7⟩,fun hd=>by
  obtain⟨g,h1,h3⟩:=h.z4 (e4▸hd);exact⟨g,by rw[zR6 d6];exact h1,h3⟩⟩
theorem AddA.call {m:Nat}(h:AddA w0 b i s D A W)(hs:A.tmps.size=m)(hk:Kp (· = b) W W')(hm:4 < m)(hb:b < w0.heap.size)(hj:j≤s.length)(hP:PB W' b s j)(hr:OkR (fun x=>W.heap.size≤x) W' r)(hPr:Pr 4 [] (s.drop i) (some (htR r,s.drop j))):AddA w0 b i s (upd 2 D) (A.put (some 4) (.agg (encR r).toArray)) W':=
 ⟨h.k.trans hk,(fun hd=>by cases hd),fun _=>⟨j,r,hj,hP,hr.from h.k.size,hPr,zB2 hs hm _⟩,fun hd=>by
  obtain⟨g,h1,h2,h3⟩:=h.z4 hd;exact⟨g,by rw[zR6 (by decide)];exact h1,h2,hk.blk h3 qG⟩⟩
theorem AddA.made {m:Nat}(h:AddA w0 b i s D A W)(hs:A.tmps.size=m)(hm:6 < m):AddA w0 b i s (upd 4 D) (A.put (some 6) (.slice (some ⟨W.heap.size,0,none⟩) 1 1)) (W.alloc (.cells #[.int .i64 0,.int .u64 0,.int .u64 0,.int .u64 0,.int .u64 0,.slice none 0 0] 233)):=by
 have hb:=(Below.refl W.heap.size W).alloc qJ (.cells #[.int .i64 0,.int .u64 0,.int .u64 0,.int .u64 0,.int .u64 0,.slice none 0 0] 233);exact⟨h.k.below hb,fun hd=>(show Blk _ _ _ _ from h.p0 hd).keep hb,fun hd=>by
  obtain⟨j,r,h1,h3,h5,h6,h7⟩:=h.p2 hd;exact⟨j,r,h1,(show Blk _ _ _ _ from h3).keep hb,h5.below hb,h6,by rw[zR6 (by decide)];exact h7⟩,fun _=>⟨_,zB2 hs hm _,h.k.size,Blk.new W _ _⟩⟩
def AddB (w0:World)(b gl base i n:Nat)(s:Tx)(v:Value)(L:List RT)(D:Nat→Bool)(A:Act)(W:World):Prop:=∃ (j:Nat) (r:RT) (g cap:Nat),j≤s.length∧PB W b s j∧Pr 4 [] (s.drop i) (some (htR r,s.drop j))∧
 (A.tmps[4]? = some (.agg (encR r).toArray)∧A.tmps[7]? = some (.slice (some ⟨g,0,none⟩) (n+1) cap)∧(D 6=true→A.tmps[8]? = some (.pointer (some ⟨g,n*6,none⟩))))∧base≤g∧(v.ownBlock=some g∨w0.heap.size≤g)∧
 (D 7=false→W.ownsRow base 233 6 (.slice (some ⟨g,0,none⟩) (n+1) cap) (n+1) (L.flatMap encR++ [.int .i64 0,.int .u64 0,.int .u64 0,.int .u64 0,.int .u64 0,.slice none 0 0]))∧(D 7=true→W.ownsRow base 233 6 (.slice (some ⟨g,0,none⟩) (n+1) cap) (n+1) (L.flatMap encR++encR r))∧
 (D 8=false→Blk W gl 231 #[v])∧(D 8=true→Blk W gl 231 #[(.slice (some ⟨g,0,none⟩) (n+1) cap)])∧
 Kp (fun x=>x=b∨x=gl∨v.ownBlock=some x) w0 W∧OkRs (fun x=>base≤x∧x≠g) W L∧OkR (fun x=>w0.heap.size≤x∧x≠g) W r
theorem xS9 {m g7 c7:Nat}(hk:Kp (· = b) w0 W)(hs:A.tmps.size=m)(hm:7 < m)(hG:b < base∧gl < base∧b≠gl∧base≤w0.heap.size)(hgr:W.grownBy W' v.ownBlock)(hown:v.ownBlock=some g7∨g7=W.heap.size)
  (hrow:W'.ownsRow base 233 6 (.slice (some ⟨g7,0,none⟩) (n+1) c7) (n+1) (L.flatMap encR++ [.int .i64 0,.int .u64 0,.int .u64 0,.int .u64 0,.int .u64 0,.slice none 0 0]))(hb7:base≤g7)(hj:j≤s.length)(hP:PB W b s j)(hr:OkR (fun x=>w0.heap.size≤x) W r)(hPr:Pr 4 [] (s.drop i) (some (htR r,s.drop j)))
  (h4:A.tmps[4]? = some (.agg (encR r).toArray))(hL:OkRs (fun x=>base≤x∧v.ownBlock≠some x) w0 L)(hGl:Blk w0 gl 231 #[v])(hRw:w0.ownsRow base 233 6 v n (L.flatMap encR))(h6:D 6=false)(h7:D 7=false)(h8:D 8=false) :
  AddB w0 b gl base i n s v L (upd 5 D) (A.put (some 7) (.slice (some ⟨g7,0,none⟩) (n+1) c7)) W':=by
 have hv:∀ x,v.ownBlock=some x→base≤x∧x < w0.heap.size:=hRw.lt;have hk2:Kp (fun x=>v.ownBlock=some x) W W':=(Kp.refl _ W).grown hgr fun x hx=>.inl hx;have hkk:Kp (fun x=>x=b∨x=gl∨v.ownBlock=some x) w0 W':=(hk.mono fun x h=>.inl h).trans (hk2.mono fun x h=>.inr (.inr h));have e6:upd 5 D 6=D 6:=rfl;have e7:upd 5 D 7=D 7:=rfl;have e8:upd 5 D 8=D 8:=rfl;have hne:∀ x,x < W.heap.size→v.ownBlock≠some x→x≠g7:=fun x hx hn e=>by
  rcases hown with ho | ho
  ·exact hn (e▸ho)
  ·omega
 refine⟨j,r,g7,c7,hj,hk2.blk hP (fun h=>by have:=(hv _ h).1;omega),hPr,⟨by rw[zR6 (by decide)];exact h4,zB2 hs hm _,fun h=>?_⟩,hb7,hown.imp id (fun h=>by have:=hk.size;omega),fun _=>hrow,fun h=>?_,fun _=>hk2.blk (hk.blk hGl fun e=>hG.2.2.1 e.symm) (fun h=>by have:=(hv _ h).1;omega),fun h=>?_,hkk,?_,?_⟩
 ·rw[e6,h6] at h;cases h
 ·rw[e7,h7] at h;cases h
 ·rw[e8,h8] at h;cases h
 ·have h1:=(zR3 hk fun x hx e=>by have:=hx.1;omega).2 _ hL;have h2:=(zV4 (M':=fun x=>base≤x∧v.ownBlock≠some x∧x≠g7) fun x hx hm=>⟨hm.1,hm.2,hne x hx hm.2⟩).2 _ h1;exact(zV4 fun x _ hm=>⟨hm.1,hm.2.2⟩).2 _ ((zR3 hk2 fun x hx e=>hx.2.1 e).2 _ h2)
 ·have h2:=(zV4 (M':=fun x=>w0.heap.size≤x∧v.ownBlock≠some x∧x≠g7) fun x hx hm=>by
   have h3:v.ownBlock≠some x:=fun e=>by have:=(hv _ e).2;omega
   exact⟨hm,h3,hne x hx h3⟩).1 _ hr
  exact(zV4 fun x _ hm=>⟨hm.1,hm.2.2⟩).1 _ ((zR3 hk2 fun x hx e=>hx.2.1 e).1 _ h2)
theorem AddB.at6 {m g:Nat}(h:AddB w0 b gl base i n s v L D A W)(hs:A.tmps.size=m)(hm:8 < m)(hg:∃ cap,A.tmps[7]? = some (.slice (some ⟨g,0,none⟩) (n+1) cap)):AddB w0 b gl base i n s v L (upd 6 D) (A.put (some 8) (.pointer (some ⟨g,n*6,none⟩))) W:=by
 obtain⟨j,r,g2,cap,h1,h2,h3,⟨h4,h5,_⟩,h6,h7⟩:=h;obtain⟨cap',hc⟩:=hg;obtain rfl:g2=g:=by
  rw[h5] at hc;injection hc with hc
  injection hc with hc
  injection hc with hc
  injection hc with hc
 exact⟨j,r,g2,cap,h1,h2,h3,⟨by rw[zR6 (by decide)];exact h4,by rw[zR6 (by decide)];exact h5,fun _=>zB2 hs hm _⟩,h6,h7⟩
theorem yE3 {w:World}{g cap:Nat}{xs:List Value}{z0 z1 z2 z3 z4 z5:Value}(h:w.ownsRow base 233 6 (.slice (some ⟨g,0,none⟩) (n+1) cap) (n+1) (xs++ [z0,z1,z2,z3,z4,z5]))(hx:xs.length=n*6) :
  (∀ k v,[z0,z1,z2,z3,z4,z5][k]? = some v→w.cell? ⟨g,n*6+k,none⟩=some v∧w.frozen? ⟨g,n*6+k,none⟩=false)∧
  ∀ y0 y1 y2 y3 y4 y5:Value,(((((((w.setCell ⟨g,n*6,none⟩ y0).setCell ⟨g,n*6+1,none⟩ y1).setCell ⟨g,n*6+2,none⟩ y2).setCell ⟨g,n*6+3,none⟩ y3).setCell ⟨g,n*6+4,none⟩ y4).setCell ⟨g,n*6+5,none⟩ y5)).ownsRow base 233 6 (.slice (some ⟨g,0,none⟩) (n+1) cap) (n+1) (xs++ [y0,y1,y2,y3,y4,y5])∧
    Kp (· = g) w (((((((w.setCell ⟨g,n*6,none⟩ y0).setCell ⟨g,n*6+1,none⟩ y1).setCell ⟨g,n*6+2,none⟩ y2).setCell ⟨g,n*6+3,none⟩ y3).setCell ⟨g,n*6+4,none⟩ y4).setCell ⟨g,n*6+5,none⟩ y5)):=by
 rcases h.2 with ⟨h2,_⟩ | ⟨g',cap',cur,h2,hb,hg,hn,hm,hs,ht⟩
 ·cases h2
 ·injection h2 with h2 _ h3
  injection h2 with h2
  injection h2 with h2
  subst h2 h3;have hB:Blk w g 233 cur:=hg;have hcur:cur.toList=xs++ [z0,z1,z2,z3,z4,z5]++cur.toList.drop ((n+1)*6):=by rw[←ht,List.take_append_drop]
  refine⟨fun k v hk=>⟨?_,hB.free _⟩,fun y0 y1 y2 y3 y4 y5=>⟨⟨by simp[hx];omega,.inr ⟨g,cap,_,rfl,hb,(((((hB.set_ (n*6) y0).set_ (n*6+1) y1).set_ (n*6+2) y2).set_ (n*6+3) y3).set_ (n*6+4) y4).set_ (n*6+5) y5,hn,hm,by simpa using hs,?_⟩⟩,?_⟩⟩
  ·rw[hB.cell,←Array.getElem?_toList,hcur,List.append_assoc,List.getElem?_append_right qG];rw[show n*6+k-xs.length=k by omega];have hk6:k < 6:=(List.getElem?_eq_some_iff.1 hk).1;rw[List.getElem?_append_left (by simpa using hk6)];exact hk
  ·have key:∀ (k:Nat) (y:Value) (zs rest:List Value),k < zs.length→(xs++zs++rest).set (n*6+k) y=xs++zs.set k y++rest:=fun k y zs rest hk=>by
    rw[List.append_assoc,List.set_append_right _ _ qG,show n*6+k-xs.length=k by omega,List.set_append_left _ _ qG,List.append_assoc]
   have key0:=fun y zs rest h=>key 0 y zs rest h;simp only[Nat.add_zero] at key0;simp only[Array.toList_setIfInBounds];rw[hcur,key0 _ _ _ (by simp),key 1 _ _ _ (by simp),key 2 _ _ _ (by simp),key 3 _ _ _ (by simp),key 4 _ _ _ (by simp),key 5 _ _ _ (by simp)];exact List.take_left' (by simp[hx];omega)
  ·exact((((((Kp.refl (· = g) w).setCell (p:=⟨g,n*6,none⟩) rfl y0).setCell (p:=⟨g,n*6+1,none⟩) rfl y1).setCell (p:=⟨g,n*6+2,none⟩) rfl y2).setCell (p:=⟨g,n*6+3,none⟩) rfl y3).setCell (p:=⟨g,n*6+4,none⟩) rfl y4).setCell (p:=⟨g,n*6+5,none⟩) rfl y5
theorem AddB.at7 {W':World}{g:Nat}{y0 y1 y2 y3 y4 y5:Value}(h:AddB w0 b gl base i n s v L D A W)(hG:b < base∧gl < base)(h6:D 6=true)(h4:A.tmps[4]? = some (.agg #[y0,y1,y2,y3,y4,y5]))(h8:A.tmps[8]? = some (.pointer (some ⟨g,n*6,none⟩)))
  (h7:D 7=false)(hk:Kp (· = g) W W')(hrow:∀ cap,W.ownsRow base 233 6 (.slice (some ⟨g,0,none⟩) (n+1) cap) (n+1) (L.flatMap encR++ [.int .i64 0,.int .u64 0,.int .u64 0,.int .u64 0,.int .u64 0,.slice none 0 0])→W'.ownsRow base 233 6 (.slice (some ⟨g,0,none⟩) (n+1) cap) (n+1) (L.flatMap encR++ [y0,y1,y2,y3,y4,y5])):AddB w0 b gl base i n s v L (upd 7 D) (A.put none undef) W':=by
 obtain⟨j,r,g2,cap,k1,k2,k3,⟨k4,k5,k6⟩,k7,k8,kv,_,k9,kx,ky,kz,kw⟩:=h;obtain rfl:g2=g:=by
  have h:=k6 h6;rw[h8] at h;injection h with h
  injection h with h
  injection h with h
  injection h with h
  exact h.symm
 have he:encR r=[y0,y1,y2,y3,y4,y5]:=by
  rw[k4] at h4;injection h4 with h4
  injection h4 with h4
  simpa using congrArg Array.toList h4
 have e8:upd 7 D 8=D 8:=rfl;refine⟨j,r,g2,cap,k1,hk.blk k2 qG,k3,⟨k4,k5,fun _=>k6 h6⟩,k7,k8,(fun h=>by cases h),fun _=>he▸hrow cap (kv h7),fun h=>hk.blk (k9 (e8▸h)) qG,fun h=>hk.blk (kx (e8▸h)) qG,ky.trans2 hk fun x hx e=>?_,(zR3 hk fun x hx e=>hx.2 e).2 _ kz,(zR3 hk fun x hx e=>hx.2 e).1 _ kw⟩;rcases k8 with h | h
 ·exact .inr (.inr (e▸h))
 ·omega
theorem AddB.at8 {W':World}{u:Value}(h:AddB w0 b gl base i n s v L D A W)(hG:b < base∧gl < base∧b≠gl∧base≤w0.heap.size)(h7:A.tmps[7]? = some u)(hk:Kp (· = gl) W W')(hB:Blk W' gl 231 #[u]):AddB w0 b gl base i n s v L (upd 8 D) (A.put none undef) W':=by
 obtain⟨j,r,g,cap,k1,k2,k3,⟨k4,k5,k6⟩,k7,k8,k9,ka,_,_,ky,kz,kw⟩:=h;have e7:upd 8 D 7=D 7:=rfl;have hu:u=(.slice (some ⟨g,0,none⟩) (n+1) cap):=by
  rw[h7] at k5;injection k5
 have hrow:∀ xs,W.ownsRow base 233 6 (.slice (some ⟨g,0,none⟩) (n+1) cap) (n+1) xs→W'.ownsRow base 233 6 (.slice (some ⟨g,0,none⟩) (n+1) cap) (n+1) xs:=fun xs h=>yV6 h hk fun x hx e=>by
  injection hx with hx
  have:x=g:=hx.symm;omega
 exact⟨j,r,g,cap,k1,hk.blk k2 hG.2.2.1,k3,⟨k4,k5,k6⟩,k7,k8,fun h=>hrow _ (k9 (e7▸h)),fun h=>hrow _ (ka (e7▸h)),(fun h=>by cases h),fun _=>hu▸hB,ky.trans (hk.mono fun x hx=>.inr (.inl hx)),(zR3 hk fun x hx e=>by have:=hx.1;omega).2 _ kz,(zR3 hk fun x hx e=>by have:=hx.1;omega).1 _ kw⟩
end
def RetA (w0:World)(b gl base i n:Nat)(s:Tx)(v:Value)(L:List RT)(e:Ending)(w':World):Prop:=∃ o j,Pr 4 [] (s.drop i) o∧j≤s.length∧PB w' b s j∧Kp (fun x=>x=b∨x=gl∨v.ownBlock=some x) w0 w'∧match o with
 | none=>∃ k,e=flt k
 | some (h,t)=>s.drop j=t∧∃ r g cap,htR r=h∧e=.returned (.tuple #[])∧base≤g∧w'.ownsRow base 233 6 (.slice (some ⟨g,0,none⟩) (n+1) cap) (n+1) ((L++ [r]).flatMap encR)∧Blk w' gl 231 #[.slice (some ⟨g,0,none⟩) (n+1) cap]∧OkRs (fun x=>base≤x∧x≠g) w' (L++ [r])
theorem AddB.row {w0 W:World}{b gl base i n g:Nat}{s:Tx}{v:Value}{L:List RT}{D:Nat→Bool}{A:Act}(h:AddB w0 b gl base i n s v L D A W)(h6:D 6=true)(h7:D 7=false)(h8:A.tmps[8]? = some (.pointer (some ⟨g,n*6,none⟩))) :
  ∃ cap,W.ownsRow base 233 6 (.slice (some ⟨g,0,none⟩) (n+1) cap) (n+1) (L.flatMap encR++ [.int .i64 0,.int .u64 0,.int .u64 0,.int .u64 0,.int .u64 0,.slice none 0 0]):=by
 obtain⟨j,r,g2,cap2,k1,k2,k3,⟨k4,k5,k6⟩,k7,k8,k9,_⟩:=h;obtain rfl:g2=g:=by
  have h:=k6 h6;rw[h8] at h;injection h with h
  injection h with h
  injection h with h
  injection h with h
  exact h.symm
 exact⟨cap2,k9 h7⟩
theorem AddB.box {w0 W:World}{b gl base i n:Nat}{s:Tx}{v:Value}{L:List RT}{D:Nat→Bool}{A:Act}(h:AddB w0 b gl base i n s v L D A W)(h8:D 8=false):Blk W gl 231 #[v]:=by
 obtain⟨j,r,g,cap,_,_,_,_,_,_,_,_,kb,_⟩:=h;exact kb h8
set_option maxRecDepth 100000 in
theorem zL8 {Q:Exit→Act→World→Prop}{W:World}{fs:List Fact}{A0:Act}{aa ab ac ad ae af ag ah ai aj ak al am an ao ap:Value}(h:A0=Act.mk #[aa,ab,aj,ak,al,am,an,ao,ap] []→Q .normal (Act.mk #[aa,ab,aj,ak,al,am,an,ao,ap] []) W):zY0 W (fun B=>A0=B→Q .normal B W) [] fs (Act.put (Act.put (Act.put (Act.put (Act.put (Act.put (Act.put (Act.mk #[aa,ab,ac,ad,ae,af,ag,ah,ai] []) (some 2) aj) (some 3) ak) (some 4) al) (some 5) am) (some 6) an) (some 7) ao) (some 8) ap):=
 yE1 qF h
set_option maxRecDepth 100000 in
set_option maxHeartbeats 4000000 in
theorem xR0 (b gl gp base i n:Nat)(s:Tx)(v:Value)(L:List RT)(w0:World)(_hil:i≤s.length)(hPc:TOk 213 4 b s i)(hB:PB w0 b s i)(hGp:Blk w0 gp 248 #[.pointer (some ⟨b,0,none⟩)])(hGl:Blk w0 gl 231 #[v])
  (hRow:w0.ownsRow base 233 6 v n (L.flatMap encR))(hLo:OkRs (fun x=>base≤x∧v.ownBlock≠some x) w0 L)(hn:n≤1000)(hlen:L.length=n)(hG:b < base∧gl < base∧gp < base∧b≠gl∧b≠gp∧gl≠gp∧base≤w0.heap.size) :
  Calls Tryz.prog 212 #[.pointer (some ⟨gl,0,none⟩),.pointer (some ⟨gp,0,none⟩)] w0 (RetA w0 b gl base i n s v L):=by
 have hvs:∃ A c,v=.slice A n c:=by
  rcases hRow.2 with ⟨h,h2⟩ | ⟨g,cap,cur,h,_⟩
  ·exact⟨none,0,h2▸h⟩
  ·exact⟨_,_,h⟩
 have HPc:=qK hPc;have HP0:=qK hB;have HGp:=qK hGp;have HGl:=qK hGl;have HRow:=qK hRow;have HLo:=qK hLo;have HG:=qK hG;have HNn:=qK hn;have HLn:=qK hlen;have hglt:gl < w0.heap.size:=hGl.lt;have hgpt:gp < w0.heap.size:=hGp.lt;obtain⟨vA,vc,hv⟩:=hvs;clear hPc hB hGp hGl hRow hLo hG hn hlen;subst hv;go_enter Tryz.func212,Tryz.ntmps212
 apply zM4 qF [isv _,isv _,(fun v _=>∃ r:RT,v=.agg (encR r).toArray),isv _,(fun v _=>∃ g:Nat,v=.slice (some ⟨g,0,none⟩) 1 1),(fun v _=>∃ (g cap:Nat),v=.slice (some ⟨g,0,none⟩) (n+1) cap),(fun v _=>∃ g:Nat,v=.pointer (some ⟨g,n*6,none⟩)),nof,nof] (fun D A W=>(D 5=false∧AddA w0 b i s D A W)∨(D 5=true∧AddB w0 b gl base i n s (.slice vA n vc) L D A W)) (.inl ⟨rfl,(Kp.refl _ _).drew,fun _=>(show Blk _ _ _ _ from HP0.out).keep qH.drew,(fun h=>by cases h),fun h=>by cases h⟩) qF qF qF (yW (yW (qA (fun _ _ _ h=>h) (yW (qA (fun _ _ _ h=>h) (qA (fun _ _ _ h=>h) (qA (fun _ _ _ h=>h) (yX (yX trivial))))))))) ?steps (by rfl) ?fin;case steps=>
  refine qA ?_ ?_
  ·intro AA W D KK hsz hdf hP hi hdn hnd hs hd hl hk;have HSZ:=qK hsz;have _HDF:=qK hdf;clear hsz hdf;have h5:=hnd 5 qF;have sl0:=hs 0 _ qF rfl;have HA:=qK (phA hP h5);have H5:=qK h5;clear h5;have HPh:=qK hP;clear hs hd hl hdn hnd hi hP;have hx:=(HA.out.k.blk HGl.out (by have:=HG.out;omega)).cell 0;go_simp;exact hk _ _ rfl (.inl ⟨H5.out,HA.out.far (by decide) (by decide) (by decide) (by decide) _⟩)
  refine qA ?_ ?_
  ·intro AA W D KK hsz hdf hP hi hdn hnd hs hd hl hk;have HSZ:=qK hsz;have _HDF:=qK hdf;clear hsz hdf;have h5:=hnd 5 qF;have sl1:=hs 1 _ qF rfl;have HA:=qK (phA hP h5);have H5:=qK h5;clear h5;have HPh:=qK hP;clear hs hd hl hdn hnd hi hP;have hx:=(HA.out.k.blk HGp.out (by have:=HG.out;omega)).cell 0;go_simp;exact hk _ _ rfl (.inl ⟨H5.out,HA.out.far (by decide) (by decide) (by decide) (by decide) _⟩)
  refine qA ?_ ?_
  ·intro AA W D KK hsz hdf hP hi hdn hnd hs hd hl hk;have HSZ:=qK hsz;have _HDF:=qK hdf;clear hsz hdf;have h5:=hnd 5 qF;obtain⟨_,sl3,rfl⟩:=hd 1 3 qF rfl;have HA:=qK (phA hP h5);have H5:=qK h5;clear h5;have HI:=qK hi;have HPh:=qK hP;clear hs hd hl hdn hnd hi hP;go_simp;refine(HPc.out W (HA.out.p0 HI.out)).mono ?_;rintro e W2 ⟨o,hPr,hk2,j,hj,hP2,h⟩;have HA2:=qK HA.out;cases o with
   | none=>
     obtain⟨k,rfl⟩:=h;exact⟨_HDF.out,none,j,hPr,hj,hP2,(HA.out.k.trans hk2).mono fun x h=>.inl h,k,rfl⟩
   | some q=>
   obtain⟨ht,t⟩:=q;obtain⟨rfl,r,hr,rfl,rfl⟩:=h;exact hk _ _ ⟨r,rfl⟩ (.inl ⟨H5.out,HA.out.call (m:=9) HSZ.out hk2 (by decide) (by have:=HG.out;omega) hj hP2 hr hPr⟩)
  refine qA ?_ ?_
  ·intro AA W D KK hsz hdf hP hi hdn hnd hs hd hl hk;have HSZ:=qK hsz;have _HDF:=qK hdf;clear hsz hdf;have h5:=hnd 5 qF;obtain⟨_,sl2,rfl⟩:=hd 0 2 qF rfl;have HA:=qK (phA hP h5);have H5:=qK h5;clear h5;have HPh:=qK hP;clear hs hd hl hdn hnd hi hP;go_simp;exact hk _ _ rfl (.inl ⟨H5.out,HA.out.far (by decide) (by decide) (by decide) (by decide) _⟩)
  refine qA ?_ ?_
  ·intro AA W D KK hsz hdf hP hi hdn hnd hs hd hl hk;have HSZ:=qK hsz;have _HDF:=qK hdf;clear hsz hdf;have h5:=hnd 5 qF;have HA:=qK (phA hP h5);have H5:=qK h5;clear h5;have HPh:=qK hP;clear hs hd hl hdn hnd hi hP;go_simp;exact hk _ _ ⟨_,rfl⟩ (.inl ⟨H5.out,HA.out.made (m:=9) HSZ.out (by decide)⟩)
  refine qA ?_ ?_
  ·intro AA W D KK hsz hdf hP hi hdn hnd hs hd hl hk;have HSZ:=qK hsz;have _HDF:=qK hdf;clear hsz hdf;have h5:=hi;have h2:=hdn 2 qF;have h4:=hdn 4 qF;have HE:=qK (show D 6=false∧D 7=false∧D 8=false from⟨hnd 6 qF,hnd 7 qF,hnd 8 qF⟩);obtain⟨_,sl2,rfl⟩:=hd 0 2 qF rfl;obtain⟨_,sl6,⟨g,rfl⟩⟩:=hd 4 6 qF rfl;have HA:=qK (phA hP h5);obtain⟨j,r,hj,hPj,hRr,hPr,h4r⟩:=HA.out.p2 h2;obtain⟨g2,h6g,hg2,hZg⟩:=HA.out.z4 h4;obtain rfl:g2=g:=by
    rw[sl6] at h6g;injection h6g with h
    injection h with h
    injection h with h
    injection h with h
    exact h.symm
   clear h2 h4 h5 h6g;have HPh:=qK hP;clear hs hd hl hdn hnd hi hP
   skip
   obtain⟨g7,c7,W7,hrun,hrow,hgr,hbl7,hown⟩:=row_app6 HRow.out HA.out.k HG.out.1 hZg HNn.out (Nat.le_trans HG.out.2.2.2.2.2.2 HA.out.k.size);refine xS8 (.tmp 2) (.tmp 6) 231 231 rfl (.slice vA n vc) (.slice (some ⟨g2,0,none⟩) 1 1) (by simp[go_sem,sl2]) (by simp[go_sem,sl6]) hrun ?_;exact hk _ _ ⟨g7,c7,rfl⟩ (.inr ⟨rfl,xS9 (m:=9) HA.out.k HSZ.out (by decide) ⟨HG.out.1,HG.out.2.1,HG.out.2.2.2.1,HG.out.2.2.2.2.2.2⟩ hgr hown hrow hbl7 hj hPj hRr hPr h4r HLo.out HGl.out HRow.out HE.out.1 HE.out.2.1 HE.out.2.2⟩)
  refine qA ?_ ?_
  ·intro AA W D KK hsz hdf hP hi hdn hnd hs hd hl hk;have HSZ:=qK hsz;have _HDF:=qK hdf;clear hsz hdf;have h5:=hdn 5 qF;obtain⟨_,sl5,rfl⟩:=hd 3 5 qF rfl;obtain⟨_,sl7,⟨g7,c7,rfl⟩⟩:=hd 5 7 qF rfl;have HB:=qK (phB hP h5);have H5:=qK h5;clear h5;have HT:=qK sl7;have HPh:=qK hP;clear hs hd hl hdn hnd hi hP;have hnl:(n:Int) < (n:Int)+1:=by omega
   go_simp;exact hk _ _ ⟨_,rfl⟩ (.inr ⟨H5.out,HB.out.at6 (m:=9) HSZ.out (by decide) ⟨_,HT.out⟩⟩)
  refine qA ?_ ?_
  ·intro AA W D KK hsz hdf hP hi hdn hnd hs hd hl hk;have HSZ:=qK hsz;have _HDF:=qK hdf;clear hsz hdf;have h5:=hdn 5 qF;have H6:=qK (hdn 6 qF);have H7:=qK (show D 7=false from hi);obtain⟨_,sl4,⟨r,rfl⟩⟩:=hd 2 4 qF rfl;obtain⟨_,sl8,⟨g8,rfl⟩⟩:=hd 6 8 qF rfl;have HB:=qK (phB hP h5);have H5:=qK h5;clear h5;obtain⟨rk,ra,rc,rd,rf,rA,rcp,rs⟩:=r;rw[encR] at sl4;have HT4:=qK sl4;have HT8:=qK sl8;have HPh:=qK hP;clear hs hd hl hdn hnd hi hP;obtain⟨cap,hrow⟩:=HB.out.row H6.out H7.out HT8.out;obtain⟨hc,hw⟩:=yE3 (w:=W) (g:=g8) (base:=base) hrow HRow.out.1;replace hw:=hw (.int .i64 rk) (.int .u64 ra) (.int .u64 rc) (.int .u64 rd) (.int .u64 rf) (.slice rA rs.length rcp);obtain⟨c0,f0⟩:=hc 0 _ rfl;obtain⟨c1,f1⟩:=hc 1 _ rfl;obtain⟨c2,f2⟩:=hc 2 _ rfl;obtain⟨c3,f3⟩:=hc 3 _ rfl;obtain⟨c4,f4⟩:=hc 4 _ rfl;obtain⟨c5,f5⟩:=hc 5 _ rfl;simp only[Nat.add_zero] at c0 f0;have HW:=qK (fun cap (hr:W.ownsRow base 233 6 (.slice (some ⟨g8,0,none⟩) (n+1) cap) (n+1) (L.flatMap encR++ [.int .i64 0,.int .u64 0,.int .u64 0,.int .u64 0,.int .u64 0,.slice none 0 0]))=>((yE3 (w:=W) (g:=g8) (base:=base) hr HRow.out.1).2 (.int .i64 rk) (.int .u64 ra) (.int .u64 rc) (.int .u64 rd) (.int .u64 rf) (.slice rA rs.length rcp)).1);have HK:=qK hw.2;clear hrow hc hw;go_simp;exact hk undef _ trivial (.inr ⟨H5.out,HB.out.at7 ⟨HG.out.1,HG.out.2.1⟩ H6.out HT4.out HT8.out H7.out HK.out HW.out⟩)
  refine qA ?_ ?_
  ·intro AA W D KK hsz hdf hP hi hdn hnd hs hd hl hk;have HSZ:=qK hsz;have _HDF:=qK hdf;clear hsz hdf;have h5:=hdn 5 qF;have H8:=qK (show D 8=false from hi);have sl0:=hs 0 _ qF rfl;obtain⟨_,sl7,⟨g7,c7,rfl⟩⟩:=hd 5 7 qF rfl;have HB:=qK (phB hP h5);have H5:=qK h5;clear h5;have HT7:=qK sl7;have HPh:=qK hP;clear hs hd hl hdn hnd hi hP;have hb:=HB.out.box H8.out;have x0:=hb.cell 0;have f0:=hb.free 0;have HS:=qK (hb.set_ 0 (.slice (some ⟨g7,0,none⟩) (n+1) c7));clear hb;go_simp;exact hk undef _ trivial (.inr ⟨H5.out,HB.out.at8 ⟨HG.out.1,HG.out.2.1,HG.out.2.2.2.1,HG.out.2.2.2.2.2.2⟩ HT7.out ((Kp.refl (· = gl) W).setCell (p:=⟨gl,0,none⟩) rfl _) (by simpa using HS.out)⟩)
  exact trivial
 case fin=>
  intro wf D A0 hD hP
  iterate 2 refine qN ?_
  refine zZ4 4 rfl ?_;rintro _ ⟨_,rfl⟩;refine qN ?_;refine zZ4 6 rfl ?_;rintro _ ⟨_,rfl⟩;refine zZ4 7 rfl ?_;rintro _ ⟨_,_,rfl⟩;refine zZ4 8 rfl ?_;rintro _ ⟨_,rfl⟩;refine yU6 rfl ?_;refine yU6 rfl ?_;refine zL8 ?_;intro hA0;subst hA0;have hB5:=phB hP (hD 5 (by decide));obtain⟨j,r,g,cap,k1,k2,k3,_,k7,_,_,ka,_,kc,kd,ke,kf⟩:=hB5;have HF:=qK (show RetA w0 b gl base i n s (.slice vA n vc) L (.returned (.tuple #[])) wf from⟨some (htR r,s.drop j),j,k3,k1,k2,kd,rfl,r,g,cap,rfl,rfl,k7,by rw[List.flatMap_append];simpa using ka (hD 7 (by decide)),kc (hD 8 (by decide)),zS8.2 fun x hx=>by
   rcases List.mem_append.1 hx with h | h
   ·exact zS8.1 ke x h
   ·rw[List.mem_singleton.1 h];exact(zV4 fun y _ hy=>⟨Nat.le_trans HG.out.2.2.2.2.2.2 hy.1,hy.2⟩).1 _ kf⟩)
  clear k1 k2 k3 k7 ka kc kd ke kf hP hD;refine bodyPost_ret (results_none rfl _ _ _) rfl HF.out
theorem zF0:∀ (t:List UInt8)(h:Nat),(zD4 h t).2.length≤t.length
 | [],h=>by simp[zD4]
 | c ::t,h=>by
   rw[zD4];split
   ·exact Nat.le_succ_of_le (zF0 t _)
   split
   ·exact Nat.le_succ_of_le (zF0 t _)
   split
   ·exact Nat.le_succ_of_le (zF0 t _)
   ·exact Nat.le_refl _
theorem xR1:∀ {r t:List UInt8},yI6 r=some t→t.length < r.length
 | [],t,h=>by cases h
 | c ::r,t,h=>by
   rw[yI6] at h;split at h
   ·injection h with h;subst h;simp
   split at h
   ·split at h
    ·injection h with h
     subst h;simp only[List.length_tail,List.length_cons];omega
    ·rw[Option.map_eq_some_iff] at h;obtain⟨⟨v,u⟩,h1,rfl⟩:=h;have:=yF7 h1;simp only[List.length_cons];omega
   split at h
   ·cases h
   ·injection h with h;subst h;simp
theorem SetL.len {r:List UInt8}{o:Option (List UInt8)}(h:SetL r o):∀ {t},o=some t→t.length < r.length:=by
 induction h with
 | fail _=>intro t h;cases h
 | stop h1=>
   intro t h;injection h with h
   subst h;have:=zE7 h1;simp only[List.length_cons] at this;omega
 | go h1 _ _ ih=>
   intro t h;have h2:=ih h;have:=zE7 h1;omega
theorem SetP.len {r t:List UInt8}(h:SetP r (some t)):t.length < r.length:=by
 cases h with
 | neg h=>have:=h.len rfl;simp only[List.length_cons];omega
 | nil=>simp
 | pos _ _ h=>exact h.len rfl
theorem Pr.len {k:Nat}{hs:List Nat}{r:List UInt8}{o:Option (Nat × List UInt8)}(h:Pr k hs r o):∀ {q t},o=some (q,t)→t.length≤r.length∧(k≠1→k≠3→t.length < r.length):=by
 induction h with
 | alt0n _ _=>intro q t h;cases h
 | alt0 _ _ ih1 ih2=>
   intro q t h;have h1:=(ih1 rfl).2 (by decide) (by decide);have h2:=(ih2 h).1;exact⟨by omega,fun _ _=>by omega⟩
 | altS _=>intro q t h;injection h with h;injection h with _ h;subst h;exact⟨Nat.le_refl _,fun h=>absurd rfl h⟩
 | altN _ _=>intro q t h;cases h
 | altL _ _ ih1 ih2=>
   intro q t h;have h1:=(ih1 rfl).1;have h2:=(ih2 h).1;simp only[List.length_cons];exact⟨by omega,fun h=>absurd rfl h⟩
 | cat0n _ _=>intro q t h;cases h
 | cat0 _ _ ih1 ih2=>
   intro q t h;have h1:=(ih1 rfl).2 (by decide) (by decide);have h2:=(ih2 h).1;exact⟨by omega,fun _ _=>by omega⟩
 | catS _=>intro q t h;injection h with h;injection h with _ h;subst h;exact⟨Nat.le_refl _,fun _ h=>absurd rfl h⟩
 | catN _ _ _ _ _=>intro q t h;cases h
 | catL _ _ _ _ _ ih1 ih2=>
   intro q t h;have h1:=(ih1 rfl).1;have h2:=(ih2 h).1;exact⟨by omega,fun _ h=>absurd rfl h⟩
 | pcN _ _=>intro q t h;cases h
 | @pc r h t _ ih=>
   intro q u e;have h1:=(ih rfl).2 (by decide) (by decide);have h2:=zF0 t h;injection e with e
   rw[e] at h2;replace h2:u.length≤t.length:=h2;exact⟨by omega,fun _ _=>by omega⟩
 | one _ _=>
   intro q t h;rw[Option.map_eq_some_iff] at h;obtain⟨u,h1,h2⟩:=h;injection h2 with _ h2
   subst h2;have:=xR1 h1;exact⟨by omega,fun _ _=>this⟩
 | set h=>
   intro q t e;rw[Option.map_eq_some_iff] at e;obtain⟨u,h1,h2⟩:=e;injection h2 with _ h2
   subst h2;subst h1;have:=h.len;simp only[List.length_cons];exact⟨by omega,fun _ _=>by omega⟩
 | emp=>intro q t h;injection h with h;injection h with _ h;subst h;simp only[List.length_cons];exact⟨by omega,fun _ _=>by omega⟩
 | grpN _ _ _=>intro q t h;cases h
 | grpU _ _ _ _=>intro q t h;cases h
 | grp _ _ ih=>
   intro q t h;injection h with h
   injection h with _ h
   subst h;have:=(ih rfl).1;simp only[List.length_cons] at this ⊢;exact⟨by omega,fun _ _=>by omega⟩
theorem Pr.gone {k i j q:Nat}{hs:List Nat}{s:List UInt8}(h:Pr k hs (s.drop i) (some (q,s.drop j)))(k1:k≠1)(k3:k≠3)(hi:i≤s.length)(hj:j≤s.length):i < j:=by
 have:=(h.len rfl).2 k1 k3;rw[List.length_drop,List.length_drop] at this;omega
theorem yE4 {w:World}{base n g cap:Nat}{L:List RT}(h:w.ownsRow base 233 6 (.slice (some ⟨g,0,none⟩) n cap) n (L.flatMap encR)):n=L.length∧Sl w w.heap.size 6 encR (some ⟨g,0,none⟩) L:=(Acc.sl (.inl h) zK4 qG)
end Go.Proofs.YtdgehhgjgifikaaGreatDoor
