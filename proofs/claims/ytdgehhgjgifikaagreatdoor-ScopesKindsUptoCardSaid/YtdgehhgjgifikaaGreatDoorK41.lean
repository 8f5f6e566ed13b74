/- What the claim needs of:KP KQ KR KS KT KZ OB. -/
import Derived.Test.YtdgehhgjgifikaaGreatDoorK40
import Derived.Recover
import Derived.Defers
import Derived.Test.YtdgehhgjgifikaaGreatDoorK8
import Derived.Test.YtdgehhgjgifikaaGreatDoorK34
import Derived.Test.YtdgehhgjgifikaaGreatDoorK24
import Derived.Test.YtdgehhgjgifikaaGreatDoorK30
namespace Go.Proofs.YtdgehhgjgifikaaGreatDoor
open Go.RowKit
theorem yI9 {P:Program}{ops:Array Oper}{rest:List Oper}{o:Oper}{a:Act}{w:World}{Q:Exit→Act→World→Prop}(hgd:o.guard=none)(d s:Operand)(t t':TypeId)
  (ho:o.op=.call {callee:=.builtin .append,args:=#[d,s],argTypes:=#[t,t']}) (v u:Value) (hd:a.eval d=v) (hs:a.eval s=u) {v':Value} {w':World}
  (hr:(Builtin.append_ #[t,t'] o.type #[v,u]).run P w=.ok v' w')(h:wpList P ops Q rest (a.put o.dst v') w'):wpList P ops Q (o ::rest) a w:=
 wpList_plain hgd fun _ hK=>xS8 d s t t' ho v u hd hs hr (hK _ _ h)
set_option maxRecDepth 100000 in
set_option maxHeartbeats 4000000 in
theorem yE7 (b:Nat)(s:Tx)(i:Nat)(hs:s.length≤1000)(hil:i≤s.length)(hA:∀ j,i≤j→j≤s.length→TOk 198 2 b s j):TOk 183 0 b s i:=by
 intro w hB;have hbl:b < w.heap.size:=(show Blk _ _ _ _ from hB).lt;have hb1:=(Below.refl w.heap.size w).alloc qJ (.cells #[.int .i64 0,.int .u64 0,.int .u64 0,.int .u64 0,.int .u64 0,.slice none 0 0] 233);have HP1:=qK (show PB _ b s i from(show Blk _ _ _ _ from hB).keep hb1);have HK1:=qK (Kp.ofBelow hb1 (· = b));have HZ1:=qK (Blk.new w 233 #[.int .i64 0,.int .u64 0,.int .u64 0,.int .u64 0,.int .u64 0,.slice none 0 0]);have HA:=qK hA;have HS:=qK hs;clear hB hb1 hA hs;go_enter Tryz.func183,Tryz.ntmps183
 go_upto_region 1 with fail
 generalize w.alloc (.cells #[.int .i64 0,.int .u64 0,.int .u64 0,.int .u64 0,.int .u64 0,.slice none 0 0] 233)=w1 at HP1 HK1 HZ1 ⊢;go_wp2_with fail
 refine(HA.out i qJ hil w1 HP1.out).mono ?_;rintro e w2 ⟨o,hPr,hk2,j,hj,hP2,h⟩;cases o with
 | none=>
   obtain⟨k,rfl⟩:=h;exact⟨rfl,none,.alt0n hPr,zW3 (HK1.out.trans hk2) hP2 hj⟩
 | some q=>
   obtain⟨ht,t⟩:=q;obtain⟨rfl,r,hr,rfl,rfl⟩:=h;have S1:=altS_one hbl HZ1.out HK1.out hk2 (hPr.gone (by decide) (by decide) hil hj) hj hP2 hr hPr;obtain⟨rk,ra,rc,rd,rf,rA,rcp,rs⟩:=r;rw[encR] at S1 ⊢;clear hPr hk2 hP2 hr HP1 HK1 HZ1;go_wp2_with fail
   generalize w2.alloc (.cells #[.int .i64 rk,.int .u64 ra,.int .u64 rc,.int .u64 rd,.int .u64 rf,.slice rA rs.length rcp] 233)=w3 at S1 ⊢;generalize w2.heap.size=g0 at S1 ⊢;go_loopw [3] (fun v3 wq=>∃ (j g cap:Nat) (L:List RT),v3=.slice (some ⟨g,0,none⟩) L.length cap∧AltS w b i s j g cap L wq) (fun _ wq=>s.length-atV b wq)
   case atStart=>exact⟨_,_,_,_,rfl,S1⟩
   case round=>
    clear S1 j hj;obtain⟨j,g,cap,L,rfl,SR⟩:=hrel;have hj:=SR.hj;have HSr:=qK SR;have HD:=qK (fun h=>@zW8 s j h);have HL:=qK (@zP8 s j);have HH:=qK (zW7 s j);have HN:=zU1 b s j wr SR.hP HS.out hj;clear SR;generalize zU0 s j=c at HN HD HL HH;go_wp2_with fail
    refine HN.mono ?_;rintro e w4 ⟨rfl,hb4⟩;have S4:=HSr.out.below hb4;clear hb4 HN;by_cases hc:c=124
    case' pos=>
     subst hc;have hjl:=HL.out (by decide);have hdr:=HD.out hjl;obtain⟨j1,hj1⟩:∃ j1,j+1=j1:=⟨_,rfl⟩;have p1:IntKind.i64.wrap ((j:Int)+1)=(j1:Int):=by have:=HS.out;simp[IntKind.wrap,IntKind.bits,IntKind.signed];omega
     have hj1l:j1≤s.length:=by omega
     have hjj1:j < j1:=by omega
     have hij1:i≤j1:=by have:=S4.hn;omega
     rw[hj1] at hdr;have HPa:=qK (S4.hP.at_ j1);obtain⟨x0,x1,f1⟩:=S4.hP.cells;have HDR:=qK hdr;clear hdr hj1 HD HL HH;go_upto_region 4 with fail
     generalize w4.setCell ⟨b,1,none⟩ (.int .i64 (j1:Nat))=w5 at HPa ⊢;clear x0 x1 f1 p1;have HP5:=HPa.out.1;have hk5:=HPa.out.2;go_wp2_with fail
     refine(HA.out j1 hij1 hj1l w5 HP5).mono ?_;rintro e w6 ⟨o,hPr,hk6,j2,hj2,hP6,h⟩;cases o with
     | none=>
       obtain⟨k,rfl⟩:=h;exact⟨rfl,none,S4.goes _ (HDR.out▸.altN hPr),zW3 ((S4.kp.trans hk5).trans hk6) hP6 hj2⟩
     | some q=>
       obtain⟨ht,t⟩:=q;obtain⟨rfl,r,hr,rfl,rfl⟩:=h;have hjj:=hPr.gone (by decide) (by decide) hj1l hj2;have hll:L.length≤1000:=by have h1:=S4.hn;have h2:=HS.out;omega
       have hk46:=hk5.trans hk6;have hgo:∀ o,Pr 1 ((L++ [r]).map htR) (s.drop j2) o→Pr 0 [] (s.drop i) o:=fun o h=>S4.goes _ (HDR.out▸.altL hPr (by rw[List.map_append] at h;exact h));have hglt:g < w4.heap.size:=(S4.row.lt g rfl).2;have hbb:=(Below.refl w6.heap.size w6).alloc qJ (.cells (encR r).toArray 233);have hrow:=yV6 (yV6 S4.row hk46 (fun x h=>by
        have h1:=S4.hg;injection (show some g=some x from h) with h
        omega)) (Kp.ofBelow hbb fun _=>False) (fun _ _ h=>h)
       obtain⟨g7,c7,W7,hrun,hrow7,hgr,hb7,hown⟩:=row_appR hrow (Blk.new w6 _ _) hll (by have h1:=S4.z.lt;have h2:=hk46.size;have h3:=hbb.size;omega);have S7:=S4.more hbl hk46 hk5.size qG hj2 hP6 hr hgo hgr hrow7 hb7 hown;clear hPr hk6 hP6 hr hk46 hgo hbb hrow hrow7 hgr hown S4 HP5 hk5;obtain⟨rk,ra,rc,rd,rf,rA,rcp,rs⟩:=r;rw[encR] at hrun ⊢;go_wp2_with (at_builtin;refine yI9 rfl (.tmp 17) (.tmp 20) 231 231 rfl _ _ rfl rfl hrun ?_)
       have hlen:L.length+1=(L++ [RT.mk rk ra rc rd rf rA rcp rs]).length:=by simp
       rw[hlen];go_roundw
       case rel=>exact⟨_,_,_,_,rfl,S7⟩
       case measure=>
        show s.length-atV b _ < s.length-atV b _;rw[S7.hP.atV,HSr.out.hP.atV];omega
    case' neg=>
     have n124:¬ ((c.toNat:Int)=124):=fun h=>hc (by apply UInt8.toNat_inj.1;exact_mod_cast h);have hc2:=HH.out;have hst:(s.drop j).head?≠some 124:=fun h=>hc (by rw[h] at hc2;exact hc2);have hll:L.length≤1048576:=by have h1:=S4.hn;have h2:=HS.out;omega
     have hJn:=yE0 4 (some ⟨g,0,none⟩) cap L w4 (yE4 S4.row).2 hll;have HFin:=qK (fun w' w'' hb hk=>@AltS.done w w4 w' w'' b i j g cap cap s L S4 hbl HS.out hst hb hk);have HZf:=qK S4.z;clear S4 hll hc2 hst hc;generalize yY5 4 (some ⟨g,0,none⟩) cap L=J at hJn HFin;obtain⟨rk,ra,rc,rd,rf,rA,rcp,rs⟩:=J;go_wp2_with fail
     refine hJn.mono ?_;rintro e w5 ⟨rfl,hb5⟩;have hz:=HZf.out.keep hb5;obtain⟨x0,x1,x2,x3,x4,x5⟩:=regC hz;obtain⟨f0,f1,f2,f3,f4,f5⟩:=regF hz;obtain⟨h6,hk6⟩:=res6 hz (.int .i64 rk) (.int .u64 ra) (.int .u64 rc) (.int .u64 rd) (.int .u64 rf) (.slice rA rs.length rcp);have H6:=qK h6;have HF:=qK (HFin.out _ _ hb5 hk6);clear hz h6 hk6 hb5 hJn HFin HZf;rw[encR];go_wp2;obtain⟨y0,y1,y2,y3,y4,y5⟩:=regC H6.out;unfold wrR at y0 y1 y2 y3 y4 y5;refine bodyPost_ret (v:=.agg #[.int .i64 rk,.int .u64 ra,.int .u64 rc,.int .u64 rd,.int .u64 rf,.slice rA rs.length rcp]) ?_ rfl HF.out;simp[results,Tryz.results183,go_sem,y0,y1,y2,y3,y4,y5]
theorem yE8 (b:Nat)(s:Tx)(hs:s.length≤1000):∀ n i,s.length-i≤n→i≤s.length→TOk 183 0 b s i
 | 0,i,hn,hi=>yE7 b s i hs hi fun j hij hj=>yE6 b s j hs hj fun k hjk hk=>yL7 b s k hs hk (yE2 b s k hs hk fun h=>absurd h qG)
 | n+1,i,hn,hi=>yE7 b s i hs hi fun j hij hj=>yE6 b s j hs hj fun k hjk hk=>yL7 b s k hs hk (yE2 b s k hs hk fun h hc=>xS6 b s k hs h hc fun m hm hml=>yE8 b s hs n m qG hml)
set_option maxHeartbeats 1000000 in
theorem yA7 (M:Nat→Prop)(r:RT)(w:World)(hO:OkR M w r):Calls Tryz.prog 185 #[.agg (encR r).toArray] w fun e w'=>e=.returned (.int .i64 (ckV (htR r)))∧Below w.heap.size w w':=by
 have hb1:=(Below.refl w.heap.size w).alloc qJ (.cells (encR r).toArray 233);have hC:=ck_any.1 r M 1 0 _ rfl qG (hO.below hb1);have hB:=Blk.new w 233 (encR r).toArray;obtain⟨rk,ra,rc,rd,rf,rA,rcp,rs⟩:=r;generalize htR (.mk rk ra rc rd rf rA rcp rs)=h at hC ⊢;rw[encR] at hb1 hC hB ⊢;have HC:=qK hC;have HB:=qK hb1;obtain⟨x0,x1,x2,x3,x4,x5⟩:=regC hB;clear hC hb1 hB;go_enter Tryz.func185,Tryz.ntmps185
 go_wp2_with (go_at_call 201;refine HC.out.mono ?_;rintro e w2 ⟨rfl,hb2⟩)
 go_ret;exact⟨rfl,HB.out.trans (hb2.mono HB.out.size)⟩
abbrev fltE (k:Int)(q:Bool):PanicEntry:={v:=.iface 252 (.agg #[.int .i64 k]),recovered:=q}
set_option maxRecDepth 100000 in
set_option maxHeartbeats 4000000 in
theorem yL8 (b c4 r f:Nat)(s:Tx)(j:Nat)(k:Int)(x0 x1 x2 x3 x4 x5 a0 a1:Value)(w:World)(h4:Blk w c4 248 #[.pointer (some ⟨b,0,none⟩)])(hP:PB w b s j)(hr:Blk w r 233 #[x0,x1,x2,x3,x4,x5])(hf:Blk w f 235 #[a0,a1])(hrf:r≠f) :
  CallsD Tryz.prog 182 #[.pointer (some ⟨c4,0,none⟩),.pointer (some ⟨r,0,none⟩),.pointer (some ⟨f,0,none⟩)] (.panicking [fltE k false]) w fun e u' w'=>e=.returned (.tuple #[])∧u'=.panicking [fltE k true]∧
   Blk w' r 233 #[.int .i64 0,.int .u64 0,.int .u64 0,.int .u64 0,.int .u64 0,.slice none 0 0]∧Blk w' f 235 #[.int .i64 8,.int .i64 k]∧Kp (fun x=>x=r∨x=f) w w':=by
 have q0:=h4.cell 0;obtain⟨p0,p1,_⟩:=hP.cells;obtain⟨k0,k1,k2,k3,k4,k5⟩:=regC hr;obtain⟨f0,f1,f2,f3,f4,f5⟩:=regF hr;have g0:=hf.cell 0;have g1:=hf.cell 1;have e0:=hf.free 0;have e1:=hf.free 1;have hta:∀ w,(Instr.typeAssert (.iface 252 (.agg #[.int .i64 k])) 20 252 true).run Tryz.prog w=.ok (.tuple #[.agg #[.int .i64 k],.bool true]) w:=fun w=>by kernel_rfl
 obtain⟨h6,hk6⟩:=res6 hr (.int .i64 0) (.int .u64 0) (.int .u64 0) (.int .u64 0) (.int .u64 0) (.slice none 0 0);have hf6:=hk6.blk hf (fun e=>hrf e.symm);have hkf:=((Kp.refl (· = f) (wrR w r (.int .i64 0) (.int .u64 0) (.int .u64 0) (.int .u64 0) (.int .u64 0) (.slice none 0 0))).setCell (p:=⟨f,0,none⟩) rfl (.int .i64 8)).setCell (p:=⟨f,1,none⟩) rfl (.int .i64 (j:Nat));have hf7:=(hf6.set_ 0 (.int .i64 8)).set_ 1 (.int .i64 (j:Nat));have HF7:=qK (show Blk _ f 235 #[.int .i64 8,.int .i64 (j:Nat)] from hf7);have HR7:=qK (hkf.blk h6 hrf);have HK7:=qK (Kp.trans2 (M:=fun x=>x=r∨x=f) (hk6.mono fun x h=>.inl h) hkf fun x _ h=>.inr h);unfold wrR at HF7 HR7 HK7;clear h6 hk6 hf6 hkf hf7 hr hf hP h4;refine callsD_of_wpS Tryz.func182 rfl fun c₀ cs hu=>?_;apply wpS_seq;apply wpS_region;simp[wpOpsS,go_sem,recoverD,hu,Tryz.ntmps182,Exit.thenS];refine wpS_of_wp ?_;rw[show (#[.pointer (some ⟨c4,0,none⟩),.pointer (some ⟨r,0,none⟩),.pointer (some ⟨f,0,none⟩)]++((Array.replicate 21 undef).setIfInBounds 3 (.iface 252 (.agg #[.int .i64 k]))).setIfInBounds 0 (.iface 252 (.agg #[.int .i64 k])):Array Value)=#[.pointer (some ⟨c4,0,none⟩),.pointer (some ⟨r,0,none⟩),.pointer (some ⟨f,0,none⟩),(.iface 252 (.agg #[.int .i64 k])),undef,undef,(.iface 252 (.agg #[.int .i64 k])),undef,undef,undef,undef,undef,undef,undef,undef,undef,undef,undef,undef,undef,undef,undef,undef,undef] from by kernel_rfl];go_upto_region 3 with fail
 generalize (((((((w.setCell ⟨r,0,none⟩ (.int .i64 0)).setCell ⟨r,1,none⟩ (.int .u64 0)).setCell ⟨r,2,none⟩ (.int .u64 0)).setCell ⟨r,3,none⟩ (.int .u64 0)).setCell ⟨r,4,none⟩ (.int .u64 0)).setCell ⟨r,5,none⟩ (.slice none 0 0)).setCell ⟨f,0,none⟩ (.int .i64 8)).setCell ⟨f,1,none⟩ (.int .i64 (j:Nat))=w7 at HF7 HR7 HK7 ⊢;clear k0 k1 k2 k3 k4 k5 f0 f1 f2 f3 f4 f5 g0 g1 e0 e1 p0 p1 q0;have hlt:f < w7.heap.size:=HF7.out.lt;have e1:=HF7.out.free 1;have g1:=HF7.out.cell 1;have hk9:=(Kp.refl (· = f) w7).setCell (p:=⟨f,1,none⟩) rfl (.int .i64 k);have HF9:=qK ((show Blk _ f 235 #[.int .i64 8,.int .i64 k] from HF7.out.set_ 1 (.int .i64 k)).alloc (.cells #[.int .i64 k] 252));have HR9:=qK ((hk9.blk HR7.out hrf).alloc (.cells #[.int .i64 k] 252));have HK9:=qK ((HK7.out.trans (hk9.mono fun x h=>.inr h)).alloc (.cells #[.int .i64 k] 252));clear hk9 HF7 HR7 HK7;go_wp2;cases c₀
 simp_all [bodyPostS,results,Tryz.results182]
 exact⟨HR9.out,HF9.out,HK9.out⟩
theorem yV7 (c4 r f:Nat)(w:World):CallsD Tryz.prog 182 #[.pointer (some ⟨c4,0,none⟩),.pointer (some ⟨r,0,none⟩),.pointer (some ⟨f,0,none⟩)] .returning w fun e u' w'=>e=.returned (.tuple #[])∧u'=.returning∧w'=w:=by
 refine callsD_of_wpS Tryz.func182 rfl fun c₀ cs hu=>?_;apply wpS_seq;apply wpS_region;simp[wpOpsS,go_sem,recoverD,hu,Tryz.ntmps182,Exit.thenS];refine wpS_of_wp ?_;rw[show (#[.pointer (some ⟨c4,0,none⟩),.pointer (some ⟨r,0,none⟩),.pointer (some ⟨f,0,none⟩)]++((Array.replicate 21 undef).setIfInBounds 3 .nilIface).setIfInBounds 0 .nilIface:Array Value)=#[.pointer (some ⟨c4,0,none⟩),.pointer (some ⟨r,0,none⟩),.pointer (some ⟨f,0,none⟩),.nilIface,undef,undef,.nilIface,undef,undef,undef,undef,undef,undef,undef,undef,undef,undef,undef,undef,undef,undef,undef,undef,undef] from by kernel_rfl];go_wp2;cases c₀
 simp_all [bodyPostS,results,Tryz.results182]
structure PsB (w:World)(s:Tx)(j:Nat)(x:Array Value)(wx:World):Prop where
 r:Blk wx w.heap.size 233 x
 f:Blk wx (w.heap.size+1) 235 #[.int .i64 0,.int .i64 0]
 p:PB wx (w.heap.size+2) s j
 c:Blk wx (w.heap.size+3) 248 #[.pointer (some ⟨w.heap.size+2,0,none⟩)]
 b:Below w.heap.size w wx
theorem psB_new (w:World)(s:Tx):PsB w s 0 #[.int .i64 0,.int .u64 0,.int .u64 0,.int .u64 0,.int .u64 0,.slice none 0 0] ((((w.alloc (.cells #[.int .i64 0,.int .u64 0,.int .u64 0,.int .u64 0,.int .u64 0,.slice none 0 0] 233)).alloc (.cells #[.int .i64 0,.int .i64 0] 235)).alloc (.cells #[.string ⟨s.toArray⟩,.int .i64 0] 250)).alloc (.cells #[.pointer (some ⟨w.heap.size+1+1,0,none⟩)] 248))∧((((w.alloc (.cells #[.int .i64 0,.int .u64 0,.int .u64 0,.int .u64 0,.int .u64 0,.slice none 0 0] 233)).alloc (.cells #[.int .i64 0,.int .i64 0] 235)).alloc (.cells #[.string ⟨s.toArray⟩,.int .i64 0] 250)).alloc (.cells #[.pointer (some ⟨w.heap.size+1+1,0,none⟩)] 248)).heap.size=w.heap.size+4:=by
 have e1:=World.size_alloc (w.alloc (.cells #[.int .i64 0,.int .u64 0,.int .u64 0,.int .u64 0,.int .u64 0,.slice none 0 0] 233)) (.cells #[.int .i64 0,.int .i64 0] 235);refine⟨⟨(((Blk.new w _ _).alloc _).alloc _).alloc _,?_,?_,?_,?_⟩,by simp⟩
 ·have h:=((Blk.new (w.alloc (.cells #[.int .i64 0,.int .u64 0,.int .u64 0,.int .u64 0,.int .u64 0,.slice none 0 0] 233)) 235 #[.int .i64 0,.int .i64 0]).alloc (.cells #[.string ⟨s.toArray⟩,.int .i64 0] 250)).alloc (.cells #[.pointer (some ⟨w.heap.size+1+1,0,none⟩)] 248);rw[World.size_alloc] at h;exact h
 ·have h:=(Blk.new ((w.alloc (.cells #[.int .i64 0,.int .u64 0,.int .u64 0,.int .u64 0,.int .u64 0,.slice none 0 0] 233)).alloc (.cells #[.int .i64 0,.int .i64 0] 235)) 250 #[.string ⟨s.toArray⟩,.int .i64 0]).alloc (.cells #[.pointer (some ⟨w.heap.size+1+1,0,none⟩)] 248);rw[World.size_alloc,World.size_alloc] at h;exact h
 ·have h:=Blk.new (((w.alloc (.cells #[.int .i64 0,.int .u64 0,.int .u64 0,.int .u64 0,.int .u64 0,.slice none 0 0] 233)).alloc (.cells #[.int .i64 0,.int .i64 0] 235)).alloc (.cells #[.string ⟨s.toArray⟩,.int .i64 0] 250)) 248 #[.pointer (some ⟨w.heap.size+1+1,0,none⟩)];rw[World.size_alloc,World.size_alloc,World.size_alloc] at h;exact h
 ·exact((((Below.refl w.heap.size w).alloc qJ _).alloc (by simp) _).alloc (by simp;omega) _).alloc (by simp;omega) _
theorem PsB.kp {w wx wy:World}{s:Tx}{j j2:Nat}{x:Array Value}(h:PsB w s j x wx)(hk:Kp (· = w.heap.size+2) wx wy)(hP:PB wy (w.heap.size+2) s j2):PsB w s j2 x wy:=
 ⟨hk.blk h.r qG,hk.blk h.f qG,hP,hk.blk h.c qG,h.b.trans (hk.toBelow h.b.size fun x hx e=>by omega)⟩
theorem PsB.below {w wx wy:World}{s:Tx}{j:Nat}{x:Array Value}(h:PsB w s j x wx)(hb:Below wx.heap.size wx wy):PsB w s j x wy:=
 ⟨h.r.keep hb,h.f.keep hb,(show Blk _ _ _ _ from h.p).keep hb,h.c.keep hb,h.b.trans (hb.mono h.b.size)⟩
theorem PsB.setR {w wx wy:World}{s:Tx}{j:Nat}{x y:Array Value}(h:PsB w s j x wx)(hk:Kp (· = w.heap.size) wx wy)(hr:Blk wy w.heap.size 233 y):PsB w s j y wy:=
 ⟨hr,hk.blk h.f qG,hk.blk h.p qG,hk.blk h.c qG,h.b.trans (hk.toBelow h.b.size fun x hx e=>by omega)⟩
def RetPs (s:Tx)(w:World)(e:Ending)(w':World):Prop:=∃ er,rxE s er∧RetRx (er == 0) w e w'∧∃ v pos,e=.returned (.tuple #[v,.agg #[.int .i64 er,.int .i64 pos]])
theorem yL9 {s:Tx}{w w':World}{o:Option (Nat × List UInt8)}{k:Int}(hs:s.length≤1000)(hPr:Pr 0 [] s o)(ho:∀ h,o≠some (h,[]))(hb:Below w.heap.size w w') :
  RetPs s w (.returned (.tuple #[.agg #[.int .i64 0,.int .u64 0,.int .u64 0,.int .u64 0,.int .u64 0,.slice none 0 0],.agg #[.int .i64 8,.int .i64 k]])) w':=by
 refine⟨8,?_,⟨0,0,0,0,0,none,0,0,8,k,rfl,rfl,hb⟩,_,_,rfl⟩;unfold rxE;rw[if_neg qG];refine⟨o,hPr,?_⟩;rcases o with _ | ⟨h,_ | ⟨c,t⟩⟩
 ·rfl
 ·exact absurd rfl (ho h)
 ·rfl
theorem yA8 (s:Tx)(w:World)(hs:1000 < s.length):Calls Tryz.prog 169 #[.string ⟨s.toArray⟩] w (RetPs s w):=by
 have hsz:(1000:Int) < (s.length:Int):=by omega
 have HB:=qK (((Below.refl w.heap.size w).alloc qJ (.cells #[.int .i64 0,.int .u64 0,.int .u64 0,.int .u64 0,.int .u64 0,.slice none 0 0] 233)).alloc (by simp) (.cells #[.int .i64 2,.int .i64 0] 235));have HR:=qK (show rxE s 2 from by unfold rxE;rw[if_pos hs])
 go_enter_defers Tryz.func169,Tryz.ntmps169
 go_wp2;simp[bodyPostD,Leaves,results,Tryz.results169,go_sem];exact⟨2,HR.out,⟨0,0,0,0,0,none,0,0,2,0,rfl,rfl,HB.out⟩,_,_,rfl⟩
set_option maxRecDepth 100000 in
set_option maxHeartbeats 4000000 in
theorem xR2 (s:Tx)(w:World)(hs:s.length≤1000):Calls Tryz.prog 169 #[.string ⟨s.toArray⟩] w (RetPs s w):=by
 have hsz:¬ (1000:Int) < (s.length:Int):=by omega
 have hmf:∀ (fn:Fn) (first cap:Array Value) (w:World),(Instr.makeFunc fn first cap).run Tryz.prog w=.ok (.func fn first cap) w:=fun _ _ _ _=>rfl;have HB1:=qK (psB_new w s);have HS:=qK hs;clear hs
 go_enter_defers Tryz.func169,Tryz.ntmps169
 go_upto_region 5 with fail
 generalize (((w.alloc (.cells #[.int .i64 0,.int .u64 0,.int .u64 0,.int .u64 0,.int .u64 0,.slice none 0 0] 233)).alloc (.cells #[.int .i64 0,.int .i64 0] 235)).alloc (.cells #[.string ⟨s.toArray⟩,.int .i64 0] 250)).alloc (.cells #[.pointer (some ⟨w.heap.size+1+1,0,none⟩)] 248)=w1 at HB1 ⊢;rw[show w.heap.size+1+1+1=w.heap.size+3 from rfl,show w.heap.size+1+1=w.heap.size+2 from rfl];have c1:=HB1.out.1.c.cell 0;have hA:=yE8 (w.heap.size+2) s HS.out s.length 0 qG (Nat.zero_le _) w1 HB1.out.1.p;rw[List.drop_zero] at hA;have HA:=qK hA;clear hA;go_wp2_with fail
 refine HA.out.mono ?_;rintro e w2 ⟨o,hPr,hk2,j,hj,hP2,h⟩;have B2:=HB1.out.1.kp hk2 hP2;have HSz:=qK (show w.heap.size+4≤w2.heap.size from by have h1:=hk2.size;have h2:=HB1.out.2;omega);clear HA hk2 hP2 c1;cases o with
 | none=>
   obtain⟨k,rfl⟩:=h;have HBad:=qK (fun w3 (h:Below w.heap.size w w3)=>yL9 (k:=k) HS.out hPr (fun h e=>by cases e) h);clear hPr hmf hsz;show bodyPostD _ _ _ (Exit.panic [fltE k false]) _ _;refine leaves_cons (f:=182) (args:=#[.pointer (some ⟨w.heap.size+3,0,none⟩),.pointer (some ⟨w.heap.size,0,none⟩),.pointer (some ⟨w.heap.size+1,0,none⟩)]) (by simp) (by simp[go_sem]) ?_;refine(yL8 (w.heap.size+2) (w.heap.size+3) w.heap.size (w.heap.size+1) s j k _ _ _ _ _ _ _ _ _ B2.c B2.p B2.r B2.f qG).mono ?_;rintro e u' w8 ⟨rfl,rfl,hr8,hf8,hk8⟩;obtain⟨y0,y1,y2,y3,y4,y5⟩:=regC hr8;have z0:=hf8.cell 0;have z1:=hf8.cell 1;have HF:=qK (HBad.out _ (B2.b.trans (hk8.toBelow B2.b.size fun x hx e=>by omega)));clear hr8 hf8 hk8;simp[Leaves,settle,results,Tryz.results169,go_sem,y0,y1,y2,y3,y4,y5,z0,z1];exact HF.out
 | some q=>
   obtain⟨ht,t⟩:=q;obtain⟨rfl,r,hr,rfl,rfl⟩:=h;have B3:=HSz.out;have HRr:=qK hr;have HPr:=qK hPr;have HCk:=qK (yA7 (fun x=>w1.heap.size≤x) r);generalize htR r=hh at HPr HCk;obtain⟨rk,ra,rc,rd,rf,rA,rcp,rs⟩:=r;rw[encR] at HCk ⊢;have hz:=B2.r;obtain⟨x0,x1,x2,x3,x4,x5⟩:=regC hz;obtain⟨f0,f1,f2,f3,f4,f5⟩:=regF hz;obtain⟨h6,hk6⟩:=res6 hz (.int .i64 rk) (.int .u64 ra) (.int .u64 rc) (.int .u64 rd) (.int .u64 rf) (.slice rA rs.length rcp);have HB3:=qK (B2.setR hk6 h6);have HR3:=qK (HRr.out.box hk6 (by have:=HB1.out.2;omega));unfold wrR at HB3 HR3;clear h6 hk6 hz hPr hr B2 B3 HRr;go_upto_region 6 with fail
   generalize (((((w2.setCell ⟨w.heap.size,0,none⟩ (.int .i64 rk)).setCell ⟨w.heap.size,1,none⟩ (.int .u64 ra)).setCell ⟨w.heap.size,2,none⟩ (.int .u64 rc)).setCell ⟨w.heap.size,3,none⟩ (.int .u64 rd)).setCell ⟨w.heap.size,4,none⟩ (.int .u64 rf)).setCell ⟨w.heap.size,5,none⟩ (.slice rA rs.length rcp)=w3 at HB3 HR3 ⊢;clear x0 x1 x2 x3 x4 x5 f0 f1 f2 f3 f4 f5;have c0:=HB3.out.c.cell 0;obtain⟨p0,p1,_⟩:=HB3.out.p.cells;obtain⟨x0,x1,x2,x3,x4,x5⟩:=regC HB3.out.r;have hb0:w.heap.size < w3.heap.size:=HB3.out.r.lt;by_cases hjl:j < s.length
   case' pos=>
    have hlt:(j:Int) < (s.length:Int):=by omega
    have HBad:=qK (fun k w4 (h:Below w.heap.size w w4)=>yL9 (k:=k) HS.out HPr.out (fun h e=>by
     injection e with e
     injection e with _ e
     have h2:=List.length_drop (i:=j) (l:=s);rw[e] at h2;simp at h2;omega) h)
    go_upto_region 7 with fail
    apply zM4 qF [isv _,isv _,isv _,isv _,isv _,(fun _ _=>False)] (fun _ _ W=>Below w3.heap.size w3 W) (qH.drew) qF qF qF (yW (yW (yW (yW (yW (qA (fun _ _ _ h=>h) trivial)))))) ?steps (by rfl) ?fin;case steps=>
     refine qA (jW 4) (qA (jW 4) (qA (yF 1 24) (qA (yF 2 25) (qA ?_ ?_))))
     ·intro AA W D KK hsz hdf hP hi hdn hnd hs hd hl hk;have HSZ:=qK hsz;have _HDF:=qK hdf;clear hsz hdf;obtain⟨_,sl26,rfl⟩:=hd 3 26 qF rfl;have HPh:=qK hP;clear hs hd hl hdn hnd hi hP;have hx:=(HB3.out.below HPh.out).p.cells.2.1;go_simp;exact hk _ _ rfl (show Below w3.heap.size w3 _ from HPh.out)
     refine qA ?_ ?_
     ·intro AA W D KK hsz hdf hP hi hdn hnd hs hd hl hk;have HSZ:=qK hsz;have _HDF:=qK hdf;clear hsz hdf;have sl2:=hs 2 _ qF rfl;have sl3:=hs 3 _ qF rfl;obtain⟨_,sl23,rfl⟩:=hd 0 23 qF rfl;obtain⟨_,sl27,rfl⟩:=hd 4 27 qF rfl;have HPh:=qK hP;clear hs hd hl hdn hnd hi hP;go_simp;refine(zX1 _ _ _).mono ?_;rintro e W2 ⟨rfl,rfl⟩;have B2:=HB3.out.below HPh.out;have HDF:=_HDF.out;clear hk HSZ HPh _HDF;try replace sl2:=sl2.out
      show Leaves _ _ AA.tmps _ AA.defers (.panicking [fltE _ false]) _;rw[HDF];refine leaves_cons (f:=182) (args:=#[.pointer (some ⟨w.heap.size+3,0,none⟩),.pointer (some ⟨w.heap.size,0,none⟩),.pointer (some ⟨w.heap.size+1,0,none⟩)]) (by simp) (by simp[go_sem]) ?_;refine(yL8 (w.heap.size+2) (w.heap.size+3) w.heap.size (w.heap.size+1) s j _ _ _ _ _ _ _ _ _ _ B2.c B2.p B2.r B2.f qG).mono ?_;rintro e u' w8 ⟨rfl,rfl,hr8,hf8,hk8⟩;obtain⟨y0,y1,y2,y3,y4,y5⟩:=regC hr8;have z0:=hf8.cell 0;have z1:=hf8.cell 1;have HF:=qK (fun k=>HBad.out k _ (B2.b.trans (hk8.toBelow B2.b.size fun x hx e=>by omega)));clear hr8 hf8 hk8;simp[Leaves,settle,results,Tryz.results169,go_sem,sl2,sl3,y0,y1,y2,y3,y4,y5,z0,z1];exact HF.out _
     exact trivial
    case fin=>
     intro wf D A0 hD hP
     iterate 5 refine qN ?_
     refine zZ4 28 rfl ?_;rintro _ h;exact(show False from h).elim
   case' neg=>
    have hlt:¬ (j:Int) < (s.length:Int):=by omega
    have HDr:=qK (show s.drop j=[] from List.drop_eq_nil_of_le qG);rw[HDr.out] at HPr;by_cases hdp:16 < hh
    case' pos=>
     have HEr:=qK (show rxE s 9 from by
      unfold rxE;rw[if_neg (by have:=HS.out;omega)];exact⟨_,HPr.out,by simp[hdp]⟩)
     rw[show ckV hh=9 from if_pos hdp] at HCk;clear hdp HPr HDr;go_upto_region 8 with fail
     go_upto_region 9 with (go_at_call 185;refine(HCk.out _ HR3.out).mono ?_;rintro e w4 ⟨rfl,hb4⟩)
     have B4:=HB3.out.below hb4;obtain⟨k0,k1,k2,k3,k4,k5⟩:=regC B4.r;obtain⟨f0,f1,f2,f3,f4,f5⟩:=regF B4.r;have g0:=B4.f.cell 0;have g1:=B4.f.cell 1;have e0:=B4.f.free 0;have e1:=B4.f.free 1;obtain⟨h6,hk6⟩:=res6 B4.r (.int .i64 0) (.int .u64 0) (.int .u64 0) (.int .u64 0) (.int .u64 0) (.slice none 0 0);have hff:=hk6.blk B4.f qG;have hkf:=((Kp.refl (· = w.heap.size+1) (wrR w4 w.heap.size (.int .i64 0) (.int .u64 0) (.int .u64 0) (.int .u64 0) (.int .u64 0) (.slice none 0 0))).setCell (p:=⟨w.heap.size+1,0,none⟩) rfl (.int .i64 9)).setCell (p:=⟨w.heap.size+1,1,none⟩) rfl (.int .i64 0);have HFz:=qK (show Blk _ (w.heap.size+1) 235 #[.int .i64 9,.int .i64 0] from(hff.set_ 0 (.int .i64 9)).set_ 1 (.int .i64 0));have HRz:=qK (hkf.blk h6 qG);have HBz:=qK (B4.b.trans ((hk6.toBelow B4.b.size fun x hx e=>by omega).trans (hkf.toBelow (Nat.le_trans B4.b.size hk6.size) fun x hx e=>by omega)));unfold wrR at HFz HRz HBz;clear h6 hk6 hff hkf hb4 HB3 HR3 HCk x0 x1 x2 x3 x4 x5 p0 p1 c0;go_wp2;generalize (((((((w4.setCell ⟨w.heap.size,0,none⟩ (.int .i64 0)).setCell ⟨w.heap.size,1,none⟩ (.int .u64 0)).setCell ⟨w.heap.size,2,none⟩ (.int .u64 0)).setCell ⟨w.heap.size,3,none⟩ (.int .u64 0)).setCell ⟨w.heap.size,4,none⟩ (.int .u64 0)).setCell ⟨w.heap.size,5,none⟩ (.slice none 0 0)).setCell ⟨w.heap.size+1,0,none⟩ (.int .i64 9)).setCell ⟨w.heap.size+1,1,none⟩ (.int .i64 0)=wz at HFz HRz HBz ⊢;refine leaves_cons (f:=182) (args:=#[.pointer (some ⟨w.heap.size+3,0,none⟩),.pointer (some ⟨w.heap.size,0,none⟩),.pointer (some ⟨w.heap.size+1,0,none⟩)]) (by simp) (by simp[go_sem]) ?_;refine(yV7 _ _ _ _).mono ?_;rintro e u' w8 ⟨rfl,rfl,rfl⟩;obtain⟨y0,y1,y2,y3,y4,y5⟩:=regC HRz.out;have z0:=HFz.out.cell 0;have z1:=HFz.out.cell 1;simp[Leaves,settle,results,Tryz.results169,go_sem,y0,y1,y2,y3,y4,y5,z0,z1];exact⟨_,HEr.out,⟨_,_,_,_,_,_,_,_,_,_,rfl,rfl,HBz.out⟩,_,_,rfl⟩
    case' neg=>
     have HEr:=qK (show rxE s 0 from by
      unfold rxE;rw[if_neg (by have:=HS.out;omega)];exact⟨_,HPr.out,by simp[hdp]⟩)
     rw[show ckV hh=0 from if_neg hdp] at HCk;clear hdp HPr HDr;go_upto_region 8 with fail
     go_upto_region 10 with (go_at_call 185;refine(HCk.out _ HR3.out).mono ?_;rintro e w4 ⟨rfl,hb4⟩)
     have B4:=HB3.out.below hb4;obtain⟨k0,k1,k2,k3,k4,k5⟩:=regC B4.r;obtain⟨f0,f1,f2,f3,f4,f5⟩:=regF B4.r;have g0:=B4.f.cell 0;have g1:=B4.f.cell 1;have e0:=B4.f.free 0;have e1:=B4.f.free 1;obtain⟨h6,hk6⟩:=res6 B4.r (.int .i64 rk) (.int .u64 ra) (.int .u64 rc) (.int .u64 rd) (.int .u64 rf) (.slice rA rs.length rcp);have hff:=hk6.blk B4.f qG;have hkf:=((Kp.refl (· = w.heap.size+1) (wrR w4 w.heap.size (.int .i64 rk) (.int .u64 ra) (.int .u64 rc) (.int .u64 rd) (.int .u64 rf) (.slice rA rs.length rcp))).setCell (p:=⟨w.heap.size+1,0,none⟩) rfl (.int .i64 0)).setCell (p:=⟨w.heap.size+1,1,none⟩) rfl (.int .i64 0);have HFz:=qK (show Blk _ (w.heap.size+1) 235 #[.int .i64 0,.int .i64 0] from(hff.set_ 0 (.int .i64 0)).set_ 1 (.int .i64 0));have HRz:=qK (hkf.blk h6 qG);have HBz:=qK (B4.b.trans ((hk6.toBelow B4.b.size fun x hx e=>by omega).trans (hkf.toBelow (Nat.le_trans B4.b.size hk6.size) fun x hx e=>by omega)));unfold wrR at HFz HRz HBz;clear h6 hk6 hff hkf hb4 HB3 HR3 HCk x0 x1 x2 x3 x4 x5 p0 p1 c0;go_wp2;generalize (((((((w4.setCell ⟨w.heap.size,0,none⟩ (.int .i64 rk)).setCell ⟨w.heap.size,1,none⟩ (.int .u64 ra)).setCell ⟨w.heap.size,2,none⟩ (.int .u64 rc)).setCell ⟨w.heap.size,3,none⟩ (.int .u64 rd)).setCell ⟨w.heap.size,4,none⟩ (.int .u64 rf)).setCell ⟨w.heap.size,5,none⟩ (.slice rA rs.length rcp)).setCell ⟨w.heap.size+1,0,none⟩ (.int .i64 0)).setCell ⟨w.heap.size+1,1,none⟩ (.int .i64 0)=wz at HFz HRz HBz ⊢;refine leaves_cons (f:=182) (args:=#[.pointer (some ⟨w.heap.size+3,0,none⟩),.pointer (some ⟨w.heap.size,0,none⟩),.pointer (some ⟨w.heap.size+1,0,none⟩)]) (by simp) (by simp[go_sem]) ?_;refine(yV7 _ _ _ _).mono ?_;rintro e u' w8 ⟨rfl,rfl,rfl⟩;obtain⟨y0,y1,y2,y3,y4,y5⟩:=regC HRz.out;have z0:=HFz.out.cell 0;have z1:=HFz.out.cell 1;simp[Leaves,settle,results,Tryz.results169,go_sem,y0,y1,y2,y3,y4,y5,z0,z1]
     exact⟨_,HEr.out,⟨_,_,_,_,_,_,_,_,_,_,rfl,rfl,HBz.out⟩,_,_,rfl⟩
theorem rx_all (l:Tx):RxOk rxP l:=fun w _=>by
 by_cases h:l.length≤1000
 ·refine(xR2 l w h).mono ?_;rintro e w' ⟨er,h1,h2,_⟩;rw[←rxP_of h1];exact h2
 ·refine(yA8 l w qG).mono ?_;rintro e w' ⟨er,h1,h2,_⟩;rw[←rxP_of h1];exact h2
mutual
theorem costE_nd:∀ (e:E)(n:Int),0≤zI9 e n→(ndE e:Int)≤n-zI9 e n
 | .mk _ t _ a b subs decls tail _,n,h=>by
   rw[zI9] at h ⊢;have h1:=zP1 decls (zX4 subs (n-1-tail.length-(zY3 [t,a,b] / 20:Nat)-(zY3 tail / 20:Nat)));have h2:=zF1 decls _ h;have h3:=yZ8 subs (n-1-tail.length-(zY3 [t,a,b] / 20:Nat)-(zY3 tail / 20:Nat)) qG;rw[ndE];omega
theorem yZ8:∀ (l:List E)(n:Int),0≤zX4 l n→(ndEs l:Int)≤n-zX4 l n
 | [],n,h=>by rw[zX4,ndEs];omega
 | x ::l,n,h=>by
   rw[zX4] at h ⊢;split at h
   ·rename_i h0;rw[if_pos h0];have h1:=zL5 l (zI9 x n);have h2:=yZ8 l _ h;have h3:=costE_nd x n qG;rw[ndEs];omega
   ·rename_i h0;rw[yV4 l qG] at h;omega
theorem costD_nd:∀ (d:D)(n:Int),0≤yY4 d n→(ndD d:Int)≤n-yY4 d n
 | .mk _ _ l a b subs body tail lead trail _,n,h=>by
   rw[yY4] at h ⊢;have h1:=zP1 body (zX4 subs (n-1-lead.length-tail.length-(zY3 [l,a,b,trail] / 20:Nat)-(zY3 lead / 20:Nat)-(zY3 tail / 20:Nat)));have h2:=zF1 body _ h;have h3:=yZ8 subs (n-1-lead.length-tail.length-(zY3 [l,a,b,trail] / 20:Nat)-(zY3 lead / 20:Nat)-(zY3 tail / 20:Nat)) qG;rw[ndD];omega
theorem zF1:∀ (l:List D)(n:Int),0≤zY6 l n→(ndDs l:Int)≤n-zY6 l n
 | [],n,h=>by rw[zY6,ndDs];omega
 | x ::l,n,h=>by
   rw[zY6] at h ⊢;split at h
   ·omega
   ·rename_i h0;rw[if_neg h0];have h1:=zP1 l (yY4 x n);have h2:=zF1 l _ h;have h3:=costD_nd x n qG;rw[ndDs];omega
end
theorem smF_nd {f:Fl}(h:smF f=true):1+f.imps.length+f.tail.length+ndDs f.decls≤1000:=by
 unfold smF at h;simp only[Bool.and_eq_true,Bool.not_eq_true',decide_eq_false_iff_not,decide_eq_true_eq] at h;have h1:=zF1 f.decls 150 h.2.2;have h2:=h.1.1;have h3:=h.1.2.1;have h4:=h.2.2;omega
theorem yE9:∀ {l:List Fl},(∀ f∈l,1+f.imps.length+f.tail.length+ndDs f.decls≤1000)→ndFs l≤l.length*1000
 | [],_=>Nat.zero_le _
 | f ::l,h=>by
   have h1:=h f (List.mem_cons_self ..);have h2:=yE9 fun g hg=>h g (List.mem_cons_of_mem _ hg);rw[ndFs,List.length_cons,Nat.add_mul];omega
theorem smP_nd {p:Pk}(h:smP p=true):ndFs p.files≤3000:=by
 unfold smP at h;rw[Bool.and_eq_true,List.all_eq_true,decide_eq_true_eq] at h;have h1:=yE9 fun f hf=>smF_nd (h.1 f hf);omega
mutual
theorem patE_all {R:Tx→Prop}(h:∀ s,R s):∀ e,PatE R e
 | .mk _ _ _ _ _ subs decls _ _=>by
   rw[PatE];exact⟨yZ9 h subs,zF2 h decls⟩
theorem yZ9 {R:Tx→Prop}(h:∀ s,R s):∀ l,PatEs R l
 | []=>by rw[PatEs];trivial
 | x ::l=>by rw[PatEs];exact⟨patE_all h x,yZ9 h l⟩
theorem patD_all {R:Tx→Prop}(h:∀ s,R s):∀ d,PatD R d
 | .mk _ _ l _ _ subs body _ _ _ _=>by
   rw[PatD];exact⟨fun _=>h l,yZ9 h subs,zF2 h body⟩
theorem zF2 {R:Tx→Prop}(h:∀ s,R s):∀ l,PatDs R l
 | []=>by rw[PatDs];trivial
 | x ::l=>by rw[PatDs];exact⟨patD_all h x,zF2 h l⟩
end
theorem inE_ok {w:World}{B:Nat}(hB:B≤1099511627776):(∀ e,InE w B e→OkA w w.heap.size e)∧(∀ d,InD w B d→OkAd w w.heap.size d)∧(∀ l,InEs w B l→OkAs w w.heap.size l)∧∀ l,InDs w B l→OkAds w w.heap.size l:=
 have m:∀ {n:Nat},n≤B→n≤maxLen:=fun h=>by simp only[maxLen];omega
 zY9
  (fun _ _ _ _ _ _ _ _ _ _ _ _ _ _ _ g1 g2 h=>by
   rw[InE] at h;rw[OkA];obtain⟨_,h2,_,h4,h5,⟨h6,_,h7⟩,h8,⟨h9,_,h10⟩,h11,⟨h12,_,h13,_⟩,_⟩:=h;exact⟨⟨m h2,m h4,m h5⟩,⟨h6,Nat.le_trans h7 hB⟩,g1 h8,⟨h9,Nat.le_trans h10 hB⟩,g2 h11,⟨h12,Nat.le_trans h13 hB⟩⟩)
  (fun _ _ _ _ _ _ _ _ _ _ _ _ _ _ _ _ _ _ _ g1 g2 h=>by
   rw[InD] at h;rw[OkAd];obtain⟨_,_,h3,h4,h5,⟨h6,_,h7⟩,h8,⟨h9,_,h10⟩,h11,⟨h12,_,h13,_⟩,⟨h14,_,h15,_⟩,h16,_⟩:=h;exact⟨⟨m h3,m h4,m h5,m h16⟩,⟨h6,Nat.le_trans h7 hB⟩,g1 h8,⟨h9,Nat.le_trans h10 hB⟩,g2 h11,⟨h12,Nat.le_trans h13 hB⟩,⟨h14,Nat.le_trans h15 hB⟩⟩)
  (fun _=>trivial) (fun _ _ h1 h2 h=>⟨h1 h.1,h2 h.2⟩) (fun _=>trivial) (fun _ _ h1 h2 h=>⟨h1 h.1,h2 h.2⟩)
theorem InF.ok {w:World}{B:Nat}{f:FA}(h:InF w B f)(hB:B≤1099511627776):OkF w w.heap.size f:=
 have m:∀ {n:Nat},n≤B→n≤maxLen:=fun h=>by simp only[maxLen];omega
 ⟨m h.pkg,⟨h.imps,Nat.le_trans h.ni.2 hB⟩,fun x hx=>m (h.names x hx).1,⟨h.decls,Nat.le_trans h.nd.2 hB⟩,(inE_ok hB).2.2.2 _ h.trees,⟨h.tail,Nat.le_trans h.nt.2 hB⟩⟩
theorem InP.ok {w:World}{B:Nat}{p:PA}(h:InP w B p)(hB:B≤1099511627776):OkP w w.heap.size p:=
 ⟨by have:=h.path;simp only[maxLen];omega,⟨h.files,Nat.le_trans h.nf.2 hB⟩,fun f hf=>(h.each f hf).ok hB⟩
theorem InP.pkS {w:World}{B:Nat}{p:PA}(h:InP w B p)(hB:B≤1099511627776)(hs:smP (plP p)=true):PkS w p:=⟨h.ok hB,Nat.le_trans (smP_nd hs) (by decide)⟩
theorem xR3 (p:PA):∀ f∈p.files,PatDs (RxOk rxP) (plDs f.decls):=fun _ _=>zF2 rx_all _
theorem In_any (s:Tx)(A:Option Addr)(c:Nat)(l:List Tx)(w:World)(hA:Sl w w.heap.size 1 encS A l)(hl:l.length≤1099511627776) :
  Calls Tryz.prog 30 #[.string ⟨s.toArray⟩,.slice A l.length c] w fun e w'=>e=.returned (.bool (decide (s∈l)))∧w'=w:=by
 have HA:=qK hA;clear hA;go_enter Tryz.func30,Tryz.ntmps30
 go_wp2;go_loopw [9] (fun iv wq=>∃ i:Nat,i≤l.length∧iv=.int .i64 (i:Nat)∧Hid (s∉l.take i)∧wq=w) (fun iv _=>l.length-(intOf iv).toNat)
 case atStart=>exact⟨0,Nat.zero_le _,rfl,qK (by simp),rfl⟩
 case round=>
  obtain⟨i,hi,rfl,HN,rfl⟩:=hrel;by_cases hlt:i < l.length
  ·have hlt':(i:Int) < (l.length:Int):=by omega
   obtain⟨bb,off,hAA,hbW,hc⟩:=HA.out.str hlt;have hm:=List.getElem_mem hlt;have HTk:=qK (show s≠l[i]→s∉l.take (i+1) from fun h hx=>by
    rw[List.take_succ_eq_append_getElem hlt,List.mem_append,List.mem_singleton] at hx;exact hx.elim HN.out h)
   generalize l[i]=x at hc hm HTk;by_cases hx:s=x
   ·subst hx;have HM:=qK hm;have hx1:(s == s)=true:=beq_self_eq_true _;clear hm HTk;go_wp2;go_ret;exact⟨by rw[decide_eq_true HM.out];rfl,rfl⟩
   ·have HX:=qK (HTk.out hx);have hx1:(s == x)=false:=beq_eq_false_iff_ne.2 hx;clear hx;clear hm HTk;go_wp2;go_roundw
    case rel=>exact⟨i+1,by omega,by go_num,HX,trivial⟩
    case measure=>simp[intOf];omega
  ·obtain rfl:i=l.length:=by omega
   rw[List.take_length] at HN;go_wp2;go_ret;exact⟨by rw[decide_eq_false HN.out];rfl,rfl⟩
end Go.Proofs.YtdgehhgjgifikaaGreatDoor
