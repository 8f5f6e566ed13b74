/- What the claim needs of:KF KG Fpn. -/
import Derived.Test.YtdgehhgjgifikaaGreatDoorK36
import Derived.Test.YtdgehhgjgifikaaGreatDoorK14
namespace Go.Proofs.YtdgehhgjgifikaaGreatDoor
open Go.RowKit
inductive RT where
 | mk (k a c d f:Int) (A:Option Addr) (cp:Nat) (subs:List RT)
def encR:RT→List Value
 | .mk k a c d f A cp subs=>[.int .i64 k,.int .u64 a,.int .u64 c,.int .u64 d,.int .u64 f,.slice A subs.length cp]
theorem zK4:∀ x,(encR x).length=6
 | .mk ..=>rfl
theorem xS4 {P:RT→Prop}{Q:List RT→Prop}(h1:∀ k a c d f A cp subs,Q subs→P (.mk k a c d f A cp subs))(h2:Q [])(h3:∀ r l,P r→Q l→Q (r ::l)):(∀ r,P r)∧∀ l,Q l:=
 ⟨fun r=>RT.rec (motive_1:=P) (motive_2:=Q) h1 h2 h3 r,fun l=>RT.rec_1 (motive_1:=P) (motive_2:=Q) h1 h2 h3 l⟩
mutual
def htR:RT→Nat
 | .mk _ _ _ _ _ _ _ subs=>htRs subs+1
def htRs:List RT→Nat
 | []=>0
 | r ::l=>max (htR r) (htRs l)
end
theorem zC1:∀ l,htRs l=maxH (l.map htR)
 | []=>rfl
 | r ::l=>by rw[htRs,zC1 l];rfl
def shapeR (k a c d f:Int)(n:Nat):Prop:=(leafK k a c d f∧n=0)∨((k=3∨k=4)∧(a=0∧c=0∧d=0∧f=0)∧2≤n)∨(k=5∧(a=0∧c=0∧d=0∧f=0)∧n=1)
mutual
def OkR (M:Nat→Prop)(w:World):RT→Prop
 | .mk k a c d f A _ subs=>shapeR k a c d f subs.length∧subs.length≤1048576∧Sl w w.heap.size 6 encR A subs∧(∀ x,A=some x→M x.block)∧(subs=[]→A=none)∧OkRs M w subs
def OkRs (M:Nat→Prop)(w:World):List RT→Prop
 | []=>True
 | r ::l=>OkR M w r∧OkRs M w l
end
theorem zS8 {M:Nat→Prop}{w:World}:∀ {l:List RT},OkRs M w l↔∀ r∈l,OkR M w r
 | []=>by simp[OkRs]
 | r ::l=>by simp[OkRs,zS8 (l:=l)]
theorem zR3 {N M:Nat→Prop}{w w':World}(hk:Kp N w w')(hN:∀ b,M b→¬ N b):(∀ r,OkR M w r→OkR M w' r)∧∀ l,OkRs M w l→OkRs M w' l:=
 xS4 (fun k a c d f A cp subs ih h=>by
   rw[OkR] at h ⊢;obtain⟨h1,h2,h3,h4,h6,h5⟩:=h;refine⟨h1,h2,?_,h4,h6,ih h5⟩;exact(hk.sl h3 qJ fun b hb=>by
    rw[Option.map_eq_some_iff] at hb;obtain⟨x,hx,rfl⟩:=hb;exact hN _ (h4 x hx)).more hk.size)
  (fun h=>h) fun r l h1 h2 h=>⟨h1 h.1,h2 h.2⟩
theorem zV4 {M M':Nat→Prop}{w:World}(hM:∀ b,b < w.heap.size→M b→M' b):(∀ r,OkR M w r→OkR M' w r)∧∀ l,OkRs M w l→OkRs M' w l:=
 xS4 (fun k a c d f A cp subs ih h=>by
   rw[OkR] at h ⊢;obtain⟨h1,h2,h3,h4,h6,h5⟩:=h;refine⟨h1,h2,h3,fun x hx=>hM _ ?_ (h4 x hx),h6,ih h5⟩;rcases h3 with h3 | ⟨b,off,h3,hb,_⟩
   ·rw[h6 h3] at hx;cases hx
   ·rw[h3] at hx;injection hx with hx
    subst hx;exact hb)
  (fun h=>h) fun r l h1 h2 h=>⟨h1 h.1,h2 h.2⟩
def yY5 (k:Int)(A:Option Addr)(cp:Nat):List RT→RT
 | [r]=>r
 | l=>.mk k 0 0 0 0 A cp l
theorem yF8 (k:Int)(A:Option Addr)(cp:Nat):∀ l,htR (yY5 k A cp l)=joinH (l.map htR)
 | []=>rfl
 | [r]=>by
   show htR r=max (htR r) 0;omega
 | r ::x ::l=>by
   show htRs (r ::x ::l)+1=maxH _+1;rw[zC1]
theorem yF9 {M:Nat→Prop}{w:World}{k:Int}{A:Option Addr}{cp:Nat}{l:List RT}(hk:k=3∨k=4)(h0:l≠[])(hl:l.length≤1048576)(hS:Sl w w.heap.size 6 encR A l)(hA:∀ x,A=some x→M x.block)(ho:OkRs M w l):OkR M w (yY5 k A cp l):=by
 match l,h0 with
 | [r],_=>exact ho.1
 | r ::x ::l,_=>exact⟨.inr (.inl ⟨hk,⟨rfl,rfl,rfl,rfl⟩,by simp⟩),hl,hS,hA,(fun h=>by cases h),ho⟩
set_option maxRecDepth 100000 in
set_option maxHeartbeats 1000000 in
theorem yE0 (k:Int)(A:Option Addr)(cp:Nat)(l:List RT)(w:World)(hS:Sl w w.heap.size 6 encR A l)(hl:l.length≤1048576):Calls Tryz.prog 200 #[.int .i64 k,.slice A l.length cp] w fun e w'=>e=.returned (.agg (encR (yY5 k A cp l)).toArray)∧Below w.heap.size w w':=by
 have hb:=(Below.refl w.heap.size w).alloc qJ (.cells #[.int .i64 0,.int .u64 0,.int .u64 0,.int .u64 0,.int .u64 0,.slice none 0 0] 233);have hz:=Blk.new w 233 #[.int .i64 0,.int .u64 0,.int .u64 0,.int .u64 0,.int .u64 0,.slice none 0 0];have hlt:w.heap.size < (w.alloc (.cells #[.int .i64 0,.int .u64 0,.int .u64 0,.int .u64 0,.int .u64 0,.slice none 0 0] 233)).heap.size:=hz.lt;have HZ:=qK hz;have Hb:=qK hb;clear hb hz hlt;by_cases h1:l.length=1
 ·obtain⟨r,rfl⟩:∃ r,l=[r]:=List.length_eq_one_iff.1 h1;obtain⟨bb,off,hA,hbW,hc⟩:=hS.at_ (i:=0) (by simp);simp only[List.getElem_cons_zero] at hc;subst hA;obtain⟨rk,ra,rc,rd,rf,rA,rcp,rs⟩:=r;have HC:=qK (fun j v h=>(Hb.out.cell (p:=⟨bb,off+0*6+j,none⟩) hbW).trans (hc j v h));clear hc hS hbW h1 hl;go_enter Tryz.func200,Tryz.ntmps200
  go_upto_region 1 with fail
  generalize w.alloc (.cells #[.int .i64 0,.int .u64 0,.int .u64 0,.int .u64 0,.int .u64 0,.slice none 0 0] 233)=w1 at HZ Hb HC ⊢;have e0:=HC.out 0 _ rfl;have e1:=HC.out 1 _ rfl;have e2:=HC.out 2 _ rfl;have e3:=HC.out 3 _ rfl;have e4:=HC.out 4 _ rfl;have e5:=HC.out 5 _ rfl;simp only[Nat.zero_mul,Nat.add_zero] at e0 e1 e2 e3 e4 e5;obtain⟨x0,x1,x2,x3,x4,x5⟩:=regC HZ.out;obtain⟨f0,f1,f2,f3,f4,f5⟩:=regF HZ.out;obtain⟨h6,hk6⟩:=res6 HZ.out (.int .i64 rk) (.int .u64 ra) (.int .u64 rc) (.int .u64 rd) (.int .u64 rf) (.slice rA rs.length rcp);have H6:=qK h6;have HR:=qK (Hb.out.trans (hk6.toBelow Hb.out.size fun b hb e=>by omega));clear h6 hk6;go_wp2;obtain⟨y0,y1,y2,y3,y4,y5⟩:=regC H6.out;unfold wrR at y0 y1 y2 y3 y4 y5;refine bodyPost_ret (v:=.agg #[.int .i64 rk,.int .u64 ra,.int .u64 rc,.int .u64 rd,.int .u64 rf,.slice rA rs.length rcp]) ?_ rfl ⟨rfl,HR.out⟩;simp[results,Tryz.results200,go_sem,y0,y1,y2,y3,y4,y5]
 ·obtain⟨n,hn⟩:∃ n,l.length=n:=⟨_,rfl⟩;have hj:encR (yY5 k A cp l)=[.int .i64 k,.int .u64 0,.int .u64 0,.int .u64 0,.int .u64 0,.slice A n cp]:=by
   subst hn;match l,h1 with
   | [],_=>rfl
   | r ::x ::l,_=>rfl
  rw[hj,hn];have hne:((n:Int) == 1)=false:=by rw[beq_eq_false_iff_ne];omega
  clear hn h1 hj hS hl;go_enter Tryz.func200,Tryz.ntmps200
  go_upto_region 1 with fail
  generalize w.alloc (.cells #[.int .i64 0,.int .u64 0,.int .u64 0,.int .u64 0,.int .u64 0,.slice none 0 0] 233)=w1 at HZ Hb ⊢;obtain⟨x0,x1,x2,x3,x4,x5⟩:=regC HZ.out;obtain⟨f0,f1,f2,f3,f4,f5⟩:=regF HZ.out;obtain⟨h6,hk6⟩:=res6 HZ.out (.int .i64 k) (.int .u64 0) (.int .u64 0) (.int .u64 0) (.int .u64 0) (.slice A n cp);have H6:=qK h6;have HR:=qK (Hb.out.trans (hk6.toBelow Hb.out.size fun b hb e=>by omega));clear h6 hk6;go_wp2;obtain⟨y0,y1,y2,y3,y4,y5⟩:=regC H6.out;unfold wrR at y0 y1 y2 y3 y4 y5;refine bodyPost_ret (v:=.agg #[.int .i64 k,.int .u64 0,.int .u64 0,.int .u64 0,.int .u64 0,.slice A n cp]) ?_ rfl ⟨rfl,HR.out⟩;simp[results,Tryz.results200,go_sem,y0,y1,y2,y3,y4,y5]
def ckV (m:Nat):Int:=if 16 < m then 9 else 0
theorem xS5 (l:List RT)(i:Nat)(h:i < l.length):htRs (l.take (i+1))=max (htRs (l.take i)) (htR l[i]):=by
 have e:∀ m:List Nat,∀ x,maxH (m++ [x])=max (maxH m) x:=fun m x=>by
  induction m with
  | nil=>show max x 0=max 0 x;omega
  | cons y m ih=>
    show max y (maxH (m++ [x]))=max (max y (maxH m)) x;rw[ih];omega
 rw[List.take_succ_eq_append_getElem h,zC1,zC1,List.map_append,List.map_singleton,e]
theorem htRs_le {l:List RT}{r:RT}(h:r∈l):htR r≤htRs l:=by
 induction l with
 | nil=>cases h
 | cons x l ih=>
   rw[htRs];rcases List.mem_cons.1 h with rfl | h
   ·omega
   ·have:=ih h;omega
def CkOk (r:RT):Prop:=∀ (M:Nat→Prop) (m n:Nat) (w:World),m=n+1→n≤1000→OkR M w r→Calls Tryz.prog 201 #[.agg (encR r).toArray,.int .i64 (m:Nat)] w fun e w'=>e=.returned (.int .i64 (ckV (htR r+n)))∧Below w.heap.size w w'
set_option maxRecDepth 100000 in
set_option maxHeartbeats 4000000 in
theorem ck_any:(∀ r,CkOk r)∧∀ l:List RT,∀ r∈l,CkOk r:=by
 refine xS4 (fun k a c d f A cp subs ih M m n w hm hn hO=>?_) (fun _ h=>by cases h) fun r l h1 h2 x hx=>(List.mem_cons.1 hx).elim (fun e=>e▸h1) (h2 x);rw[OkR] at hO;obtain⟨hsh,hsl,hS,_,hnn,hRs⟩:=hO;have HS:=qK hS;have hA0:A=none∨∃ bb off,A=some ⟨bb,off,none⟩:=by
  rcases hS with h | ⟨b,off,h,_⟩
  ·exact .inl (hnn h)
  ·exact .inr ⟨b,off,h⟩
 clear hnn hS;rw[encR];show Calls _ _ #[.agg #[.int .i64 k,.int .u64 a,.int .u64 c,.int .u64 d,.int .u64 f,.slice A subs.length cp],_] _ _;have hb:=(Below.refl w.heap.size w).alloc qJ (.cells #[.int .i64 k,.int .u64 a,.int .u64 c,.int .u64 d,.int .u64 f,.slice A subs.length cp] 233);have HZ:=qK (Blk.new w 233 #[.int .i64 k,.int .u64 a,.int .u64 c,.int .u64 d,.int .u64 f,.slice A subs.length cp]);have Hb:=qK hb;obtain⟨R,hR⟩:∃ R,ckV (htR (.mk k a c d f A cp subs)+n)=R:=⟨_,rfl⟩;rw[hR];rw[htR] at hR;have HR:=qK hR;have HI:=qK ih;have HRs:=qK (show ∀ r∈subs,OkR M w r from zS8.1 hRs);have HM:=qK hm;obtain⟨m2,hm2⟩:∃ m2,m+1=m2:=⟨_,rfl⟩;have p1:IntKind.i64.wrap ((m:Int)+1)=(m2:Int):=by simp[IntKind.wrap,IntKind.bits,IntKind.signed];omega
 have HM2:=qK hm2;have hE:∀ W,(Op.equalIn 10000 230 (.agg #[.int .u64 0,.int .u64 0,.int .u64 0,.int .u64 0]) (.agg #[.int .u64 0,.int .u64 0,.int .u64 0,.int .u64 0])).run Tryz.prog W=.ok true W:=fun _=>by kernel_rfl
 by_cases hgt:16 < m
 ·have hgt':(16:Int) < (m:Int):=by omega
  obtain rfl:9=R:=by
   rw[←HR.out];exact(if_pos qG).symm
  clear hb hR ih hRs hm hm2 hgt hsh hsl hA0;go_enter Tryz.func201,Tryz.ntmps201
  go_wp2;go_ret;exact⟨rfl,Hb.out⟩
 have hgt':¬ (16:Int) < (m:Int):=by omega
 have HMn:=qK (show n+1≤16 from by omega);obtain⟨q,hq⟩:∃ q,subs.length=q:=⟨_,rfl⟩;rw[hq] at hsh hsl HZ Hb ⊢;have hsh2:(k=2∧q=0)∨(k=0∧(a=0∧c=0∧d=0∧f=0)∧q=0)∨(k=1∧(a=0∧c=0∧d=0∧f=0)∧q=0)∨(k=3∧(a=0∧c=0∧d=0∧f=0)∧2≤q)∨(k=4∧(a=0∧c=0∧d=0∧f=0)∧2≤q)∨(k=5∧(a=0∧c=0∧d=0∧f=0)∧q=1):=by
  rcases hsh with ⟨h | ⟨h | h,h2⟩,h3⟩ | ⟨h | h,h2,h3⟩ | ⟨h,h2,h3⟩
  ·exact .inl ⟨h,h3⟩
  ·exact .inr (.inl ⟨h,h2,h3⟩)
  ·exact .inr (.inr (.inl ⟨h,h2,h3⟩))
  ·exact .inr (.inr (.inr (.inl ⟨h,h2,h3⟩)))
  ·exact .inr (.inr (.inr (.inr (.inl ⟨h,h2,h3⟩))))
  ·exact .inr (.inr (.inr (.inr (.inr ⟨h,h2,h3⟩))))
 obtain⟨w1,hw1⟩:∃ w1,w.alloc (.cells #[.int .i64 k,.int .u64 a,.int .u64 c,.int .u64 d,.int .u64 f,.slice A q cp] 233)=w1:=⟨_,rfl⟩;rw[hw1] at HZ Hb;have HQ:=qK hq;have hq0:(q:Int)≤1048576:=by omega
 clear hb hR ih hRs hm hm2 hgt hsh hq hsl;obtain rfl | ⟨b0,off0,rfl⟩:=hA0
 all_goals
  go_enter Tryz.func201,Tryz.ntmps201
  go_upto_region 1 with fail
  try rw[hw1]
  clear hw1;rcases hsh2 with ⟨rfl,h0⟩ | ⟨rfl,⟨rfl,rfl,rfl,rfl⟩,h0⟩ | ⟨rfl,⟨rfl,rfl,rfl,rfl⟩,h0⟩ | ⟨rfl,⟨rfl,rfl,rfl,rfl⟩,h0⟩ | ⟨rfl,⟨rfl,rfl,rfl,rfl⟩,h0⟩ | ⟨rfl,⟨rfl,rfl,rfl,rfl⟩,h0⟩
  all_goals
   first
    | (have hb0:((q:Int) != 0)=false:=by rw[bne_eq_false_iff_eq];omega)
    | (have hb0:((q:Int) != 1)=false:=by rw[bne_eq_false_iff_eq];omega)
    | (have hb0:¬ (q:Int) < 2:=by omega)
   clear h0;obtain⟨x0,x1,x2,x3,x4,x5⟩:=regC HZ.out;go_upto_region 16 with fail
   go_wp2;clear x0 x1 x2 x3 x4 x5 hb0;go_loopw [49] (fun iv wq=>∃ i:Nat,i≤q∧iv=.int .i64 (i:Nat)∧Hid (Below w.heap.size w wq)∧Hid (htRs (subs.take i)+(n+1)≤16)) (fun iv _=>q-(intOf iv).toNat)
   case atStart=>exact⟨0,Nat.zero_le _,rfl,Hb,qK (by have:=HMn.out;simpa[htRs] using this)⟩
   case round=>
    clear Hb HZ;obtain⟨i,hi,rfl,HB,HT⟩:=hrel;by_cases hlt:i < q
    ·have hlt':(i:Int) < (q:Int):=by omega
     have hls:i < subs.length:=by rw[HQ.out];exact hlt
     obtain⟨bb,off,hA,hbW,hc⟩:=HS.out.at_ hls;cases hA;all_goals
      have HIi:=qK (HI.out _ (List.getElem_mem hls));have HOi:=qK (HRs.out _ (List.getElem_mem hls));have HTk:=qK (xS5 subs i hls);have HLe:=qK (htRs_le (List.getElem_mem hls));generalize subs[i]=r at hc HIi HOi HTk HLe;obtain⟨rk,ra,rc,rd,rf,rA,rcp,rs⟩:=r;have HC:=qK (fun j v h=>(HB.out.cell (p:=⟨b0,off0+i*6+j,none⟩) hbW).trans (hc j v h));have e0:=HC.out 0 _ rfl;have e1:=HC.out 1 _ rfl;have e2:=HC.out 2 _ rfl;have e3:=HC.out 3 _ rfl;have e4:=HC.out 4 _ rfl;have e5:=HC.out 5 _ rfl;have hbn:=(Below.refl wr.heap.size wr).alloc qJ (.cells #[.int .i64 rk,.int .u64 ra,.int .u64 rc,.int .u64 rd,.int .u64 rf,.slice rA rs.length rcp] 233);have HZ:=qK (Blk.new wr 233 #[.int .i64 rk,.int .u64 ra,.int .u64 rc,.int .u64 rd,.int .u64 rf,.slice rA rs.length rcp]);have HB2:=qK (HB.out.trans (hbn.mono HB.out.size));simp only[Nat.add_zero] at e0;clear hc HC hls HB hbn hbW;go_upto_region 19 with fail
      clear e0 e1 e2 e3 e4 e5;generalize wr.alloc (.cells #[.int .i64 rk,.int .u64 ra,.int .u64 rc,.int .u64 rd,.int .u64 rf,.slice rA rs.length rcp] 233)=w2 at HZ HB2 ⊢;have hcall:Calls Tryz.prog 201 #[.agg #[.int .i64 rk,.int .u64 ra,.int .u64 rc,.int .u64 rd,.int .u64 rf,.slice rA rs.length rcp],.int .i64 (m2:Nat)] w2 _:=HIi.out M m2 (n+1) w2 (by have:=HM.out;have:=HM2.out;omega) (by have:=HMn.out;omega) ((zR3 (Kp.ofBelow HB2.out (fun _=>False)) (fun _ _ h=>h)).1 _ HOi.out);have Hc:=qK hcall;clear hcall HIi HOi;obtain⟨x0,x1,x2,x3,x4,x5⟩:=regC HZ.out;generalize htR (.mk rk ra rc rd rf rA rcp rs)=hh at HTk HLe Hc;go_wp2_with fail
      refine Hc.out.mono ?_;rintro e w3 ⟨rfl,hb3⟩;have HB3:=qK (HB2.out.trans (hb3.mono HB2.out.size));clear hb3 x0 x1 x2 x3 x4 x5 Hc HZ HB2;by_cases h16:16 < hh+(n+1)
      ·have e:ckV (hh+(n+1))=9:=if_pos h16;rw[e];obtain rfl:9=R:=by
        rw[←HR.out];exact(if_pos (by have:=HLe.out;omega)).symm
       clear h16 e;go_wp2;go_ret;exact⟨rfl,HB3.out⟩
      ·have e:ckV (hh+(n+1))=0:=if_neg h16;rw[e];have HT2:=qK (show htRs (subs.take (i+1))+(n+1)≤16 from by
        rw[HTk.out];have:=HT.out;omega)
       clear h16 e HTk HLe;go_wp2;go_roundw
       case rel=>exact⟨i+1,by omega,by go_num,HB3,HT2⟩
       case measure=>simp[intOf];omega
    ·obtain rfl:i=q:=by omega
     obtain rfl:0=R:=by
      rw[←HR.out];refine(if_neg ?_).symm;have:=HT.out;rw[←HQ.out,List.take_length] at this;omega
     clear hlt HT;go_wp2;go_ret;exact⟨rfl,HB.out⟩
def RetT (b:Nat)(s:Tx)(o:Option (Nat × List UInt8))(w:World)(e:Ending)(w':World):Prop:=
 Kp (· = b) w w'∧∃ j,j≤s.length∧PB w' b s j∧match o with
  | some (h,t)=>s.drop j=t∧∃ r,OkR (fun x=>w.heap.size≤x) w' r∧htR r=h∧e=.returned (.agg (encR r).toArray)
  | none=>∃ k,e=flt k
def TOk (fn q:Nat)(b:Nat)(s:Tx)(i:Nat):Prop:=∀ w,PB w b s i→Calls Tryz.prog fn #[.pointer (some ⟨b,0,none⟩)] w fun e w'=>∃ o,Pr q [] (s.drop i) o∧RetT b s o w e w'
theorem zW3 {b:Nat}{s:Tx}{w w':World}{j:Nat}{k:Int}(hk:Kp (· = b) w w')(hP:PB w' b s j)(hj:j≤s.length):RetT b s none w (flt k) w':=⟨hk,j,hj,hP,k,rfl⟩
theorem zS0 {b:Nat}{s:Tx}{w w':World}{j h:Nat}{r:RT}(hk:Kp (· = b) w w')(hP:PB w' b s j)(hj:j≤s.length)(hr:OkR (fun x=>w.heap.size≤x) w' r)(hh:htR r=h):RetT b s (some (h,s.drop j)) w (.returned (.agg (encR r).toArray)) w':=⟨hk,j,hj,hP,rfl,r,hr,hh,rfl⟩
def yY6 (k a c d f:Int):RT:=.mk k a c d f none 0 []
theorem zM3 {M:Nat→Prop}{w:World}{k a c d f:Int}(h:leafK k a c d f):OkR M w (yY6 k a c d f):=⟨.inl ⟨h,rfl⟩,by simp,.inl rfl,(fun _ h=>by cases h),(fun _=>rfl),trivial⟩
theorem OkR.box {M:Nat→Prop}{w w':World}{r:RT}{g:Nat}(h:OkR M w r)(hk:Kp (· = g) w w')(hg:¬ M g):OkR M w' r:=(zR3 hk fun _ hb e=>hg (e▸hb)).1 r h
theorem OkR.below {M:Nat→Prop}{w w':World}{r:RT}(h:OkR M w r)(hb:Below w.heap.size w w'):OkR M w' r:=(zR3 (Kp.ofBelow hb fun _=>False) fun _ _ h=>h).1 r h
theorem OkR.from {z z':Nat}{w:World}{r:RT}(h:OkR (fun x=>z≤x) w r)(hz:z'≤z):OkR (fun x=>z'≤x) w r:=(zV4 fun _ _ hb=>Nat.le_trans hz hb).1 r h
set_option maxRecDepth 100000 in
set_option maxHeartbeats 2000000 in
theorem xS6 (b:Nat)(s:Tx)(i:Nat)(hs:s.length≤1000)(hi:i < s.length)(hc:zU0 s i=40)(hA:∀ j,i < j→j≤s.length→TOk 183 0 b s j):TOk 221 5 b s i:=by
 intro w hB;have hbl:b < w.heap.size:=(show Blk _ _ _ _ from hB).lt;have hb1:=(Below.refl w.heap.size w).alloc qJ (.cells #[.int .i64 0,.int .u64 0,.int .u64 0,.int .u64 0,.int .u64 0,.slice none 0 0] 233);have HZ1:=qK (Blk.new w 233 #[.int .i64 0,.int .u64 0,.int .u64 0,.int .u64 0,.int .u64 0,.slice none 0 0]);have hP1:PB (w.alloc (.cells #[.int .i64 0,.int .u64 0,.int .u64 0,.int .u64 0,.int .u64 0,.slice none 0 0] 233)) b s i:=(show Blk _ _ _ _ from hB).keep hb1;have HK1:=qK (Kp.ofBelow hb1 (· = b));obtain⟨i1,hi1⟩:∃ i1,i+1=i1:=⟨_,rfl⟩;obtain⟨i2,hi2⟩:∃ i2,i1+1=i2:=⟨_,rfl⟩;have p1:IntKind.i64.wrap ((i:Int)+1)=(i1:Int):=by simp[IntKind.wrap,IntKind.bits,IntKind.signed];omega
 have hil:i1≤s.length:=by omega
 have HP2:=qK (hP1.at_ i1);obtain⟨x0,x1,f1⟩:=hP1.cells;obtain⟨R,hR⟩:∃ R,s.drop i=R:=⟨_,rfl⟩;rw[hR];rw[zW8 hi,hc,hi1] at hR;have HR:=qK hR;have HAl:=qK (hA i1 qG hil);have HD:=qK (fun h=>@zW8 s i1 h);have HL:=qK (@zP8 s i1);have HH:=qK (zW7 s i1);have hN:=zU1 b s i1;generalize zU0 s i1=c at hN HD HL HH;clear hB hb1 hP1 hi1 hc hA hR;go_enter Tryz.func221,Tryz.ntmps221
 go_upto_region 1 with fail
 generalize w.alloc (.cells #[.int .i64 0,.int .u64 0,.int .u64 0,.int .u64 0,.int .u64 0,.slice none 0 0] 233)=w1 at HZ1 HK1 HP2 x0 x1 f1 ⊢;go_upto_region 2 with fail
 generalize w1.setCell ⟨b,1,none⟩ (.int .i64 (i1:Nat))=w2 at HP2 ⊢;clear x0 x1 f1 p1;have HK2:=qK (HK1.out.trans HP2.out.2);have HZ2:=qK (HP2.out.2.blk HZ1.out qG);go_wp2_with fail
 refine(hN w2 HP2.out.1 hs hil).mono ?_;rintro e w3 ⟨rfl,hb3⟩;have HP3:=qK (show PB w3 b s i1 from(show Blk _ _ _ _ from HP2.out.1).keep hb3);have HK3:=qK (HK2.out.below hb3);have HZ3:=qK (HZ2.out.keep hb3);clear hb3 HP2 HK2 HZ2 HK1 HZ1 hN;by_cases h41:c=41
 ·subst h41;have hjl:=HL.out (by decide);have p2:IntKind.i64.wrap ((i1:Int)+1)=(i2:Int):=by simp[IntKind.wrap,IntKind.bits,IntKind.signed];omega
  have HPr:=qK (show Pr 5 [] R (some (1,s.drop i2)) from by rw[←HR.out,HD.out hjl,hi2];exact .emp);have HJ:=qK (show i2≤s.length from by omega);have HPa:=qK (HP3.out.at_ i2);obtain⟨x0,x1,f1⟩:=HP3.out.cells;clear hi2 hjl;go_upto_region 4 with fail
  generalize w3.setCell ⟨b,1,none⟩ (.int .i64 (i2:Nat))=wa at HPa ⊢;clear x0 x1 f1 p2;have hz:=HPa.out.2.blk HZ3.out qG;obtain⟨x0,x1,x2,x3,x4,x5⟩:=regC hz;obtain⟨f0,f1,f2,f3,f4,f5⟩:=regF hz;obtain⟨h6,hk6⟩:=res6 hz (.int .i64 1) (.int .u64 0) (.int .u64 0) (.int .u64 0) (.int .u64 0) (.slice none 0 0);have H6:=qK h6;have HF:=qK (zS0 (r:=yY6 1 0 0 0 0) ((HK3.out.trans HPa.out.2).trans2 hk6 fun i hi e=>by omega) (show PB _ b s i2 from hk6.blk HPa.out.1 qG) HJ.out (zM3 (.inr ⟨.inr rfl,rfl,rfl,rfl,rfl⟩)) rfl);clear hz h6 hk6;go_wp2;obtain⟨y0,y1,y2,y3,y4,y5⟩:=regC H6.out;unfold wrR at y0 y1 y2 y3 y4 y5;refine bodyPost_ret (v:=zR8 1 0 0 0 0) ?_ rfl ⟨_,HPr.out,HF.out⟩;simp[results,Tryz.results221,go_sem,y0,y1,y2,y3,y4,y5,zR8]
 have n41:¬ ((c.toNat:Int)=41):=fun h=>h41 (by apply UInt8.toNat_inj.1;exact_mod_cast h);have HH2:=qK (show (s.drop i1).head?≠some 41 from fun h=>h41 (by have h2:=HH.out;rw[h] at h2;exact h2));clear h41 HD HL HH hi2;go_wp2_with fail
 refine(HAl.out w3 HP3.out).mono ?_;rintro e w4 ⟨o,hPr,hk4,j,hj,hP4,h⟩;have HK4:=qK (HK3.out.trans hk4);have HZ4:=qK (hk4.blk HZ3.out qG);have HP4:=qK hP4;have HG:=qK (show w.heap.size < w3.heap.size∧w3.heap.size≤w4.heap.size from⟨HZ3.out.lt,hk4.size⟩);clear hk4 hP4 HK3 HZ3 HP3 n41;cases o with
 | none=>
   obtain⟨k,rfl⟩:=h;exact⟨rfl,none,HR.out▸.grpN HH2.out hPr,zW3 HK4.out HP4.out hj⟩
 | some q=>
   obtain⟨ht,t⟩:=q;obtain⟨rfl,r,hr,rfl,he⟩:=h;obtain⟨rk,ra,rc,rd,rf,rA,rcp,rs⟩:=r;rw[encR] at he;subst he;have HPr:=qK hPr;have HRr:=qK hr;have HD:=qK (fun h=>@zW8 s j h);have HL:=qK (@zP8 s j);have HH:=qK (zW7 s j);have hN:=zU1 b s j;generalize zU0 s j=c at hN HD HL HH;have hb5:=(Below.refl w4.heap.size w4).alloc qJ (.cells #[.int .i64 rk,.int .u64 ra,.int .u64 rc,.int .u64 rd,.int .u64 rf,.slice rA rs.length rcp] 233);have HX5:=qK (Blk.new w4 233 #[.int .i64 rk,.int .u64 ra,.int .u64 rc,.int .u64 rd,.int .u64 rf,.slice rA rs.length rcp]);have HP5:=qK (show PB (w4.alloc (.cells #[.int .i64 rk,.int .u64 ra,.int .u64 rc,.int .u64 rd,.int .u64 rf,.slice rA rs.length rcp] 233)) b s j from(show Blk _ _ _ _ from HP4.out).keep hb5);have HK5:=qK (HK4.out.below hb5);have HZ5:=qK (HZ4.out.keep hb5);have HR5:=qK (HRr.out.below hb5);clear hPr hr HK4 HZ4 HP4 HRr hb5;go_upto_region 6 with fail
   obtain⟨g5,hg5⟩:∃ g5,g5=w4.heap.size:=⟨_,rfl⟩;have HG5:=qK (show w.heap.size < w3.heap.size∧w3.heap.size≤g5 from hg5▸HG.out);rw[←hg5] at HX5 ⊢;generalize w4.alloc (.cells #[.int .i64 rk,.int .u64 ra,.int .u64 rc,.int .u64 rd,.int .u64 rf,.slice rA rs.length rcp] 233)=w5 at HX5 HP5 HK5 HZ5 HR5 ⊢;clear hg5 HG;go_wp2_with fail
   refine(hN w5 HP5.out hs hj).mono ?_;rintro e w6 ⟨rfl,hb6⟩;have HP6:=qK (show PB w6 b s j from(show Blk _ _ _ _ from HP5.out).keep hb6);have HK6:=qK (HK5.out.below hb6);have HZ6:=qK (HZ5.out.keep hb6);have HX6:=qK (HX5.out.keep hb6);have HR6:=qK (HR5.out.below hb6);clear hb6 HP5 HK5 HZ5 HX5 HR5 hN;obtain⟨x0,x1,f1⟩:=HP6.out.cells;by_cases h41:c=41
   ·subst h41;have hjl:=HL.out (by decide);obtain⟨j1,hj1⟩:∃ j1,j+1=j1:=⟨_,rfl⟩;have p2:IntKind.i64.wrap ((j:Int)+1)=(j1:Int):=by simp[IntKind.wrap,IntKind.bits,IntKind.signed];omega
    have HPr2:=qK (show Pr 5 [] R (some (htR (.mk rk ra rc rd rf rA rcp rs),s.drop j1)) from by
     rw[←HR.out,←hj1];refine .grp HH2.out ?_;rw[←HD.out hjl];exact HPr.out)
    have HJ:=qK (show j1≤s.length from by omega);have HPa:=qK (HP6.out.at_ j1);clear hj1 hjl;go_upto_region 9 with fail
    generalize w6.setCell ⟨b,1,none⟩ (.int .i64 (j1:Nat))=wa at HPa ⊢;clear x0 x1 f1 p2;have hz:=HPa.out.2.blk HZ6.out qG;obtain⟨k0,k1,k2,k3,k4,k5⟩:=regC (HPa.out.2.blk HX6.out (by have:=HG5.out;omega));obtain⟨x0,x1,x2,x3,x4,x5⟩:=regC hz;obtain⟨f0,f1,f2,f3,f4,f5⟩:=regF hz;obtain⟨h6,hk6⟩:=res6 hz (.int .i64 rk) (.int .u64 ra) (.int .u64 rc) (.int .u64 rd) (.int .u64 rf) (.slice rA rs.length rcp);have H6:=qK h6;have HRa:=(HR6.out.box HPa.out.2 (by have:=HG5.out;omega)).box hk6 (by have:=HG5.out;omega);have HF:=qK (zS0 (r:=.mk rk ra rc rd rf rA rcp rs) ((HK6.out.trans HPa.out.2).trans2 hk6 fun i hi e=>by omega) (show PB _ b s j1 from hk6.blk HPa.out.1 qG) HJ.out (HRa.from (by have:=HG5.out;omega)) rfl);clear hz h6 hk6 HRa;go_wp2;obtain⟨y0,y1,y2,y3,y4,y5⟩:=regC H6.out;unfold wrR at y0 y1 y2 y3 y4 y5;refine bodyPost_ret (v:=.agg #[.int .i64 rk,.int .u64 ra,.int .u64 rc,.int .u64 rd,.int .u64 rf,.slice rA rs.length rcp]) ?_ rfl ⟨_,HPr2.out,HF.out⟩;simp[results,Tryz.results221,go_sem,y0,y1,y2,y3,y4,y5]
   ·have n41:¬ ((c.toNat:Int)=41):=fun h=>h41 (by apply UInt8.toNat_inj.1;exact_mod_cast h);have HPr2:=qK (show Pr 5 [] R none from by
     rw[←HR.out];exact .grpU HH2.out HPr.out fun h=>h41 (by have h2:=HH.out;rw[h] at h2;exact h2))
    clear h41;go_wp2_with fail
    refine(zX1 b _ _).mono ?_;rintro e w7 ⟨rfl,rfl⟩;exact⟨rfl,none,HPr2.out,zW3 HK6.out HP6.out hj⟩
section
variable {P:Program}{ops:Array Oper}{Q:Exit→Act→World→Prop}
def OneQ (P:Program)(ops:Array Oper)(Q:Exit→Act→World→Prop)(F:List Fact)(Ph:(Nat→Bool)→Act→World→Prop)(a:Act)(i:Nat)(o:Oper)(f:Fact):Prop:=
 ∀ (A:Act) (W:World) (D:Nat→Bool) (K:Act→World→Prop),A.tmps.size=a.tmps.size→A.defers=a.defers→Ph D A W→D i=false→(∀ e (_:zV1 ops 9 i e=true:=by kernel_rfl),D e=true)→(∀ j (_:zV1 ops 9 j i=true:=by kernel_rfl),D j=false)→
   (∀ x v (_:zT8 ops x=true:=by kernel_rfl) (_:nth a.tmps.toList x=some v:=by exact rfl),A.tmps[x]? = some v)→
   (∀ e d (_:zV1 ops 3 i e=true:=by kernel_rfl) (_:zS2 ops e=some d:=by exact rfl),∃ v,A.tmps[d]? = some v∧(F.getD e nof) v W)→
   (∀ j d v,(j == i||zV1 ops 3 j i)=true→zS2 ops j=some d→nth a.tmps.toList d=some v→A.tmps[d]? = some v)→
   (∀ v W',f v W'→Ph (upd i D) (A.put o.dst v) W'→K (A.put o.dst v) W')→
   match o.guard with
   | none=>o.wp P A W K Q
   | some (g,want)=>∃ u d,zS2 ops g=some d∧A.tmps[d]? = some u∧xZ9 (isB want u) (o.wp P A W K Q) (f undef W∧Ph (upd i D) (A.put o.dst undef) W)
def AllQ (P:Program)(ops:Array Oper)(Q:Exit→Act→World→Prop)(F:List Fact)(Ph:(Nat→Bool)→Act→World→Prop)(a:Act):Nat→List Oper→List Fact→Prop
 | i,o ::os,f ::fs=>OneQ P ops Q F Ph a i o f∧AllQ P ops Q F Ph a (i+1) os fs
 | _,[],[]=>True
 | _,_,_=>False
theorem xS7 {F:List Fact}{Ph:(Nat→Bool)→Act→World→Prop}{a:Act}:∀ {os:List Oper}{fs:List Fact}{k:Nat},AllQ P ops Q F Ph a k os fs→∀ {i:Nat}{o:Oper},os[i]? = some o→∃ f,fs[i]? = some f∧OneQ P ops Q F Ph a (k+i) o f
 | [],fs,k,_,i,o,ho=>by simp at ho
 | x ::os,[],k,h,i,o,ho=>h.elim
 | x ::os,f ::fs,k,h,i,o,ho=>by
   cases i with
   | zero=>
     simp only[List.getElem?_cons_zero,Option.some.injEq] at ho;subst ho;exact⟨f,rfl,h.1⟩
   | succ i=>
     obtain⟨g,h1,h2⟩:=xS7 h.2 (i:=i) (by simpa using ho);exact⟨g,by simpa using h1,by rw[show k+(i+1)=k+1+i by omega];exact h2⟩
theorem zM4 {id:Nat}{a:Act}{w:World}(hm:P.follows .mixedOrders=true)(F:List Fact)(Ph:(Nat→Bool)→Act→World→Prop)(hw:Ph (fun _=>false) a w.drew)
  (hdis:zV7 (ops.toList.map (·.dst))=true)(hlt:dstLt ops a.tmps.size=true)(hwf:yK4 ops=true)
  (hfree:zN4 F)(steps:AllQ P ops Q F Ph a 0 ops.toList F)(hlen:ops.toList.length=F.length)
  (fin:∀ W (D:Nat→Bool)(A:Act),(∀ i,i < ops.size→D i=true)→Ph D A W→zY0 W (fun B=>A=B→Q .normal B W) ops.toList F a):(Code.region id ops true).wp P Q a w:=by
 refine zS5 hm (fun L A W=>HeldP ops F Ph a L A W) (fun L A W h=>h.size) ?_ ?_ hwf ?_
 ·refine⟨by simp,?_,rfl,rfl,fun _ _=>rfl,fun _ _ _ _=>rfl,fun i e h _=>?_,fun i d h _=>?_⟩
  ·exact vX
  all_goals
   exfalso;simp only[Array.getD_eq_getD_getElem?,Array.getElem?_replicate] at h;split at h <;> simp at h
 ·intro i oi ho1 L A W hL hdep hI;have hi:i < ops.size:=(Array.getElem?_eq_some_iff.1 ho1).1;have hLi:L.getD i false=false:=by
   have:i < L.size:=by rw[hI.size];exact hi
   simpa[this] using hL
  have ho':ops.toList[i]? = some oi:=by rw[Array.getElem?_toList];exact ho1
  have hsz:∀ d,oi.dst=some d→d < a.tmps.size:=fun d hd=>by
   have:=(List.all_eq_true.1 hlt) oi (List.mem_of_getElem? ho');rw[hd] at this;simpa using this
  have hdirect:∀ e,zW5 ops i e=true→L.getD e false=true:=fun e he=>by
   unfold zW5 at he;rw[ho'] at he;obtain⟨x,hx,hy⟩:=List.any_eq_true.1 he;obtain⟨h2,h3⟩:=Bool.and_eq_true _ _▸hy;rw[Array.all_eq_true'] at hdep;have h4:=hdep x (by simpa using hx);rw[h2] at h4;have h5:x.on=e:=by simpa using h3
   rw[h5] at h4;simpa using h4
  have hdirN:∀ n e,zV1 ops n i e=true→L.getD e false=true:=fun n e he=>by
   cases n with
   | zero=>exact hdirect e he
   | succ n=>
     unfold zV1 at he;rcases Bool.or_eq_true _ _▸he with h2 | h2
     ·exact hdirect e h2
     ·exact vI
  obtain⟨f,hf2,h1⟩:=xS7 steps ho';rw[Nat.zero_add] at h1;have hfD:F.getD i nof=f:=by rw[List.getD_eq_getElem?_getD,hf2];rfl
  have hput:∀ v W',f v W'→Ph (upd i fun j=>L.getD j false) (A.put oi.dst v) W'→HeldP ops F Ph a (L.setIfInBounds i true) (A.put oi.dst v) W':=fun v W' hv hb=>
   hI.put hfree hdis ho1 hdep hsz (by rw[hfD];exact hv) hb
  have h2:=h1 A W (fun j=>L.getD j false) (fun A' W'=>HeldP ops F Ph a (L.setIfInBounds i true) A' W') hI.len hI.defers hI.ph hLi (fun e he=>hdirN 9 e he) (fun j hj=>by
    cases hlj:L.getD j false with
    | false=>rfl
    | true=>rw[hI.closedN 9 j i hlj hj] at hLi;cases hLi)
   (fun x v hx hv=>by rw[hI.same x hx,←Array.getElem?_toList,←zH4];exact hv)
   (fun e d he hd=>hI.fact e d (hdirN 3 e he) hd)
   (fun j d v hj hd hv=>by
    rw[hI.late j d ?_ hd,←Array.getElem?_toList,←zH4]
    ·exact hv
    ·rcases Bool.or_eq_true _ _▸hj with h3 | h3
     ·exact xA
     ·cases hlj:L.getD j false with
      | false=>rfl
      | true=>rw[hI.closedN 3 j i hlj h3] at hLi;cases hLi)
   hput
  unfold Region.wanted;cases hgi:oi.guard with
  | none=>
    rw[hgi] at h2;simp only[if_true];exact .inl h2
  | some gw=>
    obtain⟨g,want⟩:=gw;rw[hgi] at h2;obtain⟨u,d,h3,h4,h5⟩:=h2;have hy:(yielded ops A.tmps g == some want)=isB want u:=by
     unfold yielded;unfold zS2 at h3;rw[←Array.getElem?_toList,h3];simp only[Option.bind_some,h4];cases u <;> first | rfl | (rename_i b;cases b <;> cases want <;> rfl)
    simp only[hy];cases hbb:isB want u with
    | true=>
      rw[hbb] at h5;simp only[if_true];exact .inl h5
    | false=>
      rw[hbb] at h5;simp only[Bool.false_eq_true,if_false];exact hput _ _ h5.1 h5.2
 ·intro L A W hr hI;exact zO5 (A:=A) ops.toList F a hlen (fin W (fun j=>L.getD j false) A (fun i hi=>hr i hi) hI.ph) hI.len hI.defers (fun i d hd=>hI.fact i d (hr i (by
   cases ho:ops.toList[i]? with
   | none=>rw[ho] at hd;cases hd
   | some o=>have:=(List.getElem?_eq_some_iff.1 ho).1;simpa using this)) hd) hI.same rfl
theorem yE1 {W:World}{A0 A A':Act}{fs:List Fact}(h:A=A')(hq:A0=A'→Q .normal A' W):zY0 W (fun B=>A0=B→Q .normal B W) [] fs A:=by
 subst h;exact hq
end
end Go.Proofs.YtdgehhgjgifikaaGreatDoor
