/- What the claim needs of:ZX QA QB QC QE ZY. -/
import Derived.Test.YtdgehhgjgifikaaGreatDoorK25
import Derived.Laws.EntriesVeiled
import Derived.Test.YtdgehhgjgifikaaGreatDoorK23
namespace Go.Proofs.YtdgehhgjgifikaaGreatDoor
open Go.RowKit
theorem xV7 {Im:Nat→Prop}{w:World}{t:Tx}{x:Int × Int × Option Nat}{pos:Int}(h:t.length≤maxLen):OkI Im w (refA t x pos none 0 []):=by
 unfold refA;rw[OkI,OkIs,OkIds];have hk:(zO3 x.1).length≤maxLen:=by
  unfold zO3;repeat' split
  all_goals (simp[zT7,zM8,wLet,zC3,zT6,maxLen])
 exact⟨⟨h,hk,Nat.zero_le _⟩,SlI.nil_ _ _ _ _ _,trivial,SlI.nil_ _ _ _ _ _,trivial,SlI.nil_ _ _ _ _ _⟩
theorem okI_refS {Im:Nat→Prop}{w:World}{t:Tx}{x:Int × Int × Option Nat}{pos:Int}{A:Option Addr}{c:Nat}{e:EA}(h:t.length≤maxLen)(hs:SlI Im w 9 encE A [e])(he:OkI Im w e):OkI Im w (refA t x pos A c [e]):=by
 unfold refA;rw[OkI,OkIds];have hk:(zO3 x.1).length≤maxLen:=by
  unfold zO3;repeat' split
  all_goals (simp[zT7,zM8,wLet,zC3,zT6,maxLen])
 exact⟨⟨h,hk,Nat.zero_le _⟩,hs,⟨he,trivial⟩,SlI.nil_ _ _ _ _ _,trivial,SlI.nil_ _ _ _ _ _⟩
set_option maxRecDepth 100000 in
set_option maxHeartbeats 4000000 in
theorem cloR_any {R:RF}{br bd n:Nat}{U:UseR Bool}(hRv:RsvOk R (cloR R.r br bd) n U):yT9 R (cloR R.r br bd) n (RsC R U) 59 #[.pointer (some ⟨br,0,none⟩),.pointer (some ⟨bd,0,none⟩)]:=by
 intro σ Im w s k t m a b As cs subs Ad cd decls At ct tail pos x file hS hOk hx hf hkd;obtain⟨w1,hw1⟩:∃ w1,(((w.alloc (.cells #[.int .i64 k,.string ⟨t.toArray⟩,.int .i64 m,.string ⟨a.toArray⟩,.string ⟨b.toArray⟩,.slice As subs.length cs,.slice Ad decls.length cd,.slice At tail.length ct,.int .i64 pos] 67)).alloc (.cells #[.int .i64 (file:Nat),.int .i64 pos,.string ⟨t.toArray⟩,.int .i64 x.1,.int .i64 x.2.1] 52)).alloc (.cells #[.int .i64 0,.string ⟨#[]⟩,.int .i64 0,.string ⟨#[]⟩,.string ⟨#[]⟩,.slice none 0 0,.slice none 0 0,.slice none 0 0,.int .i64 0] 67))=w1:=⟨_,rfl⟩;have hb1:Below w.heap.size w w1:=by rw[←hw1];exact((((Below.refl w.heap.size w).alloc qJ _).alloc (by simp) _).alloc (by simp;omega) _)
 have hz1:w1.heap.size=w.heap.size+1+1+1:=by rw[←hw1];simp
 have F1:=qK ((Fr.start (hS.less (Nat.le_succ s) (Nat.le_refl n))).below hb1);have M1:=qK (show Mine (zn R (cloR R.r br bd) σ Im) w1 (w.heap.size+2)∧Mine (zn R (cloR R.r br bd) σ Im) w1 w.heap.size from⟨hS.zo.new_ qG qG,hS.zo.new_ qG qG⟩);have B1:=qK (show Blk w1 w.heap.size 67 #[.int .i64 k,.string ⟨t.toArray⟩,.int .i64 m,.string ⟨a.toArray⟩,.string ⟨b.toArray⟩,.slice As subs.length cs,.slice Ad decls.length cd,.slice At tail.length ct,.int .i64 pos] from by rw[←hw1];exact((Blk.new w _ _).alloc _).alloc _);have V1:=qK (show Blk w1 (w.heap.size+1) 52 #[.int .i64 (file:Nat),.int .i64 pos,.string ⟨t.toArray⟩,.int .i64 x.1,.int .i64 x.2.1] from by
  rw[←hw1];have:=Blk.new (w.alloc (.cells #[.int .i64 k,.string ⟨t.toArray⟩,.int .i64 m,.string ⟨a.toArray⟩,.string ⟨b.toArray⟩,.slice As subs.length cs,.slice Ad decls.length cd,.slice At tail.length ct,.int .i64 pos] 67)) 52 #[.int .i64 (file:Nat),.int .i64 pos,.string ⟨t.toArray⟩,.int .i64 x.1,.int .i64 x.2.1];rw[World.size_alloc] at this;exact this.alloc _)
 have Z1:=qK (show Blk w1 (w.heap.size+2) 67 #[.int .i64 0,.string ⟨#[]⟩,.int .i64 0,.string ⟨#[]⟩,.string ⟨#[]⟩,.slice none 0 0,.slice none 0 0,.slice none 0 0,.int .i64 0] from by
  rw[←hw1];have:=Blk.new ((w.alloc (.cells #[.int .i64 k,.string ⟨t.toArray⟩,.int .i64 m,.string ⟨a.toArray⟩,.string ⟨b.toArray⟩,.slice As subs.length cs,.slice Ad decls.length cd,.slice At tail.length ct,.int .i64 pos] 67)).alloc (.cells #[.int .i64 (file:Nat),.int .i64 pos,.string ⟨t.toArray⟩,.int .i64 x.1,.int .i64 x.2.1] 52)) 67 #[.int .i64 0,.string ⟨#[]⟩,.int .i64 0,.string ⟨#[]⟩,.string ⟨#[]⟩,.slice none 0 0,.slice none 0 0,.slice none 0 0,.int .i64 0];rw[World.size_alloc,World.size_alloc] at this;exact this)
 have O1:=qK ((zZ2 (Kp.ofBelow hb1 (fun _=>False)) (fun _ _ h=>h) (fun _ h=>h)).1 _ hOk);have HRv:=qK hRv;have HTn:=qK (show t.length≤maxLen from hOk.1.1);have HX:=qK hx;obtain⟨x0,dp,ob⟩:=x;obtain⟨q,hq⟩:∃ q:Nat,x0=(q:Int):=⟨x0.toNat,by have:=hkd.1;dsimp only at this;omega⟩;subst hq;have hq5:q < 5:=by have:=hkd.2;dsimp only at this;omega
 have hq5I:(q:Int) < 5:=by omega
 have HWd:=qK (show ([.string ⟨#[117,110,107,110,111,119,110]⟩,.string ⟨#[102,105,101,108,100]⟩,.string ⟨#[108,101,116]⟩,.string ⟨#[108,111,111,112]⟩,.string ⟨#[112,97,99,107,97,103,101]⟩]:List Value)[q]'(by simp only[List.length_cons,List.length_nil];omega)=.string ⟨(zO3 q).toArray⟩ from by
  match q,hq5 with
  | 0,_=>rfl
  | 1,_=>rfl
  | 2,_=>rfl
  | 3,_=>rfl
  | 4,_=>rfl)
 clear hS hOk hx hf hb1 hRv hkd;dsimp only at B1 V1 Z1 F1 M1 O1;simp only[encE,List.append_toArray,List.cons_append,List.nil_append];change Calls Tryz.prog 59 #[.agg #[.int .i64 k,.string ⟨t.toArray⟩,.int .i64 m,.string ⟨a.toArray⟩,.string ⟨b.toArray⟩,.slice As subs.length cs,.slice Ad decls.length cd,.slice At tail.length ct,.int .i64 pos],.agg #[.int .i64 (file:Nat),.int .i64 pos,.string ⟨t.toArray⟩,.int .i64 (q:Nat),.int .i64 dp],yT6 ob,.pointer (some ⟨br,0,none⟩),.pointer (some ⟨bd,0,none⟩)] w _;go_enter Tryz.func59,Tryz.ntmps59
 go_upto_region 1 with fail
 clear hw1;obtain⟨e0,e1,e2,e3,e4,e5,e6,e7,e8⟩:=zZ6 B1.out;obtain⟨u0,u1,u2,u3,u4⟩:=useC V1.out;go_upto_region 2 with fail
 rw[HWd.out];have hbw:=(Below.refl w1.heap.size w1).alloc qJ (.cells #[.string ⟨#[117,110,107,110,111,119,110]⟩,.string ⟨#[102,105,101,108,100]⟩,.string ⟨#[108,101,116]⟩,.string ⟨#[108,111,111,112]⟩,.string ⟨#[112,97,99,107,97,103,101]⟩] 9);have F2:=qK (F1.out.below hbw);have B2:=qK (B1.out.keep hbw);have V2:=qK (V1.out.keep hbw);have Z2:=qK (Z1.out.keep hbw);have M2:=qK (M1.out.1.up hbw.size);clear e0 e1 e2 e3 e4 e5 e6 e7 e8 u0 u1 u2 u3 u4 hbw;generalize w1.alloc (.cells #[.string ⟨#[117,110,107,110,111,119,110]⟩,.string ⟨#[102,105,101,108,100]⟩,.string ⟨#[108,101,116]⟩,.string ⟨#[108,111,111,112]⟩,.string ⟨#[112,97,99,107,97,103,101]⟩] 9)=w2 at F2 B2 V2 Z2 M2 ⊢;clear F1 B1 V1 Z1 M1 O1;obtain⟨e0,e1,e2,e3,e4,e5,e6,e7,e8⟩:=zZ6 B2.out;obtain⟨u0,u1,u2,u3,u4⟩:=useC V2.out;go_upto_region 3 with fail
 have hbw:=(Below.refl w2.heap.size w2).alloc qJ (.cells #[.int .i64 10,.string ⟨t.toArray⟩,.int .i64 dp,.string ⟨(zO3 q).toArray⟩,.string ⟨#[]⟩,.slice none 0 0,.slice none 0 0,.slice none 0 0,.int .i64 pos] 67);have F3:=qK (F2.out.below hbw);have R3:=qK (Blk.new w2 67 #[.int .i64 10,.string ⟨t.toArray⟩,.int .i64 dp,.string ⟨(zO3 q).toArray⟩,.string ⟨#[]⟩,.slice none 0 0,.slice none 0 0,.slice none 0 0,.int .i64 pos]);have Z3:=qK (Z2.out.keep hbw);have M3:=qK (M2.out.up hbw.size);have N3:=qK (show Mine (zn R (cloR R.r br bd) σ Im) (w2.alloc (.cells #[.int .i64 10,.string ⟨t.toArray⟩,.int .i64 dp,.string ⟨(zO3 q).toArray⟩,.string ⟨#[]⟩,.slice none 0 0,.slice none 0 0,.slice none 0 0,.int .i64 pos] 67)) w2.heap.size∧w.heap.size≤w2.heap.size from F2.out.new_ qJ (by simp));clear e0 e1 e2 e3 e4 e5 e6 e7 e8 u0 u1 u2 u3 u4 hbw;generalize w2.alloc (.cells #[.int .i64 10,.string ⟨t.toArray⟩,.int .i64 dp,.string ⟨(zO3 q).toArray⟩,.string ⟨#[]⟩,.slice none 0 0,.slice none 0 0,.slice none 0 0,.int .i64 pos] 67)=w3 at F3 R3 Z3 M3 N3 ⊢;have HNe:=qK (show w2.heap.size≠w.heap.size+2 from fun e=>by have:=Z2.out.lt;omega);clear F2 B2 V2 Z2 M2;cases ob with
 | none=>
   obtain⟨e0,e1,e2,e3,e4,e5,e6,e7,e8⟩:=zZ6 R3.out;obtain⟨y0,y1,y2,y3,y4,y5,y6,y7,y8⟩:=zZ6 Z3.out;obtain⟨zf0,zf1,zf2,zf3,zf4,zf5,zf6,zf7,zf8⟩:=zF8 Z3.out;dsimp only[yT6];go_wp2;clear e0 e1 e2 e3 e4 e5 e6 e7 e8 y0 y1 y2 y3 y4 y5 y6 y7 y8 zf0 zf1 zf2 zf3 zf4 zf5 zf6 zf7 zf8;obtain⟨F6,hB6,hK6⟩:=F3.out.store9 qG M3.out Z3.out (.int .i64 10) (.string ⟨t.toArray⟩) (.int .i64 dp) (.string ⟨(zO3 q).toArray⟩) (.string ⟨#[]⟩) (.slice none 0 0) (.slice none 0 0) (.slice none 0 0) (.int .i64 pos);have HR:=qK (show RetE R (cloR R.r br bd) n s σ Im w (fun σ' e'=>RsC R U σ (.mk k t m a b As cs subs Ad cd decls At ct tail pos) ((q:Int),dp,none) file σ' e') (.returned (.agg #[.int .i64 10,.string ⟨t.toArray⟩,.int .i64 dp,.string ⟨(zO3 q).toArray⟩,.string ⟨#[]⟩,.slice none 0 0,.slice none 0 0,.slice none 0 0,.int .i64 pos])) _ from⟨_,Im,refA t ((q:Int),dp,none) pos none 0 [],rfl,⟨rfl,rfl⟩,F6.st,F6.sp,F6.gr,xV7 HTn.out⟩);obtain⟨z0,z1,z2,z3,z4,z5,z6,z7,z8⟩:=zZ6 hB6;refine bodyPost_ret (v:=.agg #[.int .i64 10,.string ⟨t.toArray⟩,.int .i64 dp,.string ⟨(zO3 q).toArray⟩,.string ⟨#[]⟩,.slice none 0 0,.slice none 0 0,.slice none 0 0,.int .i64 pos]) ?_ rfl HR.out;simp[results,Tryz.results59,go_sem,z0,z1,z2,z3,z4,z5,z6,z7,z8]
 | some b1=>
   dsimp only[yT6];have r0:=F3.out.st.cl.1.cell 0;have cR:=qK (HRv.out σ Im w3 s b1 F3.out.st (HX.out b1 rfl));go_wp2_with fail
   refine cR.out.mono ?_;rintro e w4 ⟨σ1,Im1,e1,rfl,hRes,hS4,hQ4,hG4,hO4⟩;clear cR r0;have hze:∃ zk zt zm za zb zAs zcs zsubs zAd zcd zdecls zAt zct ztail zpos,e1=.mk zk zt zm za zb zAs zcs zsubs zAd zcd zdecls zAt zct ztail zpos:=by cases e1;exact⟨_,_,_,_,_,_,_,_,_,_,_,_,_,_,_,rfl⟩
   obtain⟨zk,zt,zm,za,zb,zAs,zcs,zsubs,zAd,zcd,zdecls,zAt,zct,ztail,zpos,rfl⟩:=hze;simp only[encE];obtain⟨o0,ho0,hob0⟩:=HX.out b1 rfl;obtain⟨o1,ho1,hob1⟩:=hG4.ob o0 ho0;have hob:o1.blk=b1:=hob1.trans hob0;have hB1:=hS4.rs.ob.at_ o1 ho1;rw[hob] at hB1;have F4:=qK (F3.out.step hS4 hQ4 hG4);have R4:=qK (hQ4.kp.blk R3.out N3.out.1.2.1);have Z4:=qK (hQ4.kp.blk Z3.out M3.out.2.1);have M4:=qK (hQ4.own M3.out);have N4:=qK (show Mine (zn R (cloR R.r br bd) σ1 Im1) w4 w2.heap.size∧w.heap.size≤w2.heap.size from⟨hQ4.own N3.out.1,N3.out.2⟩);have HRes:=qK (show _∧_∧_ from⟨hRes,ho1,hob⟩);have HO4:=qK hO4;have HB4:=qK hB1;clear hRes hS4 hQ4 hG4 hO4 ho0 hob0 ho1 hob1 hob hB1;have hbw:=(Below.refl w4.heap.size w4).alloc qJ (.cells #[.int .i64 zk,.string ⟨zt.toArray⟩,.int .i64 zm,.string ⟨za.toArray⟩,.string ⟨zb.toArray⟩,.slice zAs zsubs.length zcs,.slice zAd zdecls.length zcd,.slice zAt ztail.length zct,.int .i64 zpos] 67);have F5:=qK (F4.out.below hbw);have R5:=qK (R4.out.keep hbw);have Z5:=qK (Z4.out.keep hbw);have M5:=qK (M4.out.up hbw.size);have N5:=qK (N4.out.1.up hbw.size);have B5:=qK (HB4.out.keep hbw);have X5:=qK (Blk.new w4 67 #[.int .i64 zk,.string ⟨zt.toArray⟩,.int .i64 zm,.string ⟨za.toArray⟩,.string ⟨zb.toArray⟩,.slice zAs zsubs.length zcs,.slice zAd zdecls.length zcd,.slice zAt ztail.length zct,.int .i64 zpos]);have O5:=qK ((zZ2 (N:=fun _=>False) (Kp.ofBelow hbw _) (fun _ _ h=>h) (fun _ h=>h)).1 _ HO4.out);clear hbw;go_upto_region 5 with fail
   generalize w4.alloc (.cells #[.int .i64 zk,.string ⟨zt.toArray⟩,.int .i64 zm,.string ⟨za.toArray⟩,.string ⟨zb.toArray⟩,.slice zAs zsubs.length zcs,.slice zAd zdecls.length zcd,.slice zAt ztail.length zct,.int .i64 zpos] 67)=w5 at F5 R5 Z5 M5 N5 B5 X5 O5 ⊢;clear F4 R4 Z4 M4 HB4 HO4;have d15:=obH B5.out;by_cases h16:16≤o1.hgt
   ·have hcl:=F5.out.st.cl;have x0:=hcl.2.cell 0;have xf:=hcl.2.free 0;have hk:Kp (· = bd) w5 (w5.setCell ⟨bd,0,none⟩ (.bool true)):=(Kp.refl (· = bd) w5).setCell (p:=⟨bd,0,none⟩) rfl _;obtain⟨T6,Q6,G6⟩:=F5.out.st.clo (q:=0) (x':=true) (N:=(· = bd)) hk (fun b hb=>.inr hb) ⟨hk.blk hcl.1 (zQ1 hcl.1 hcl.2 (by decide)),by have:=hcl.2.set_ 0 (.bool true);simpa using this⟩ (fun b hb=>.inl hb) qJ;have F6:=qK (F5.out.step T6 Q6 G6);have M6:=qK (Q6.own M5.out);have R6:=qK (Q6.kp.blk R5.out N5.out.2.1);have Z6:=qK (Q6.kp.blk Z5.out M5.out.2.1);have H16:=qK h16;clear T6 Q6 G6 hk hcl;go_upto_region 7 with fail
    generalize w5.setCell ⟨bd,0,none⟩ (.bool true)=w6 at F6 M6 R6 Z6 ⊢;clear x0 xf d15;obtain⟨e0,e1,e2,e3,e4,e5,e6,e7,e8⟩:=zZ6 R6.out;obtain⟨y0,y1,y2,y3,y4,y5,y6,y7,y8⟩:=zZ6 Z6.out;obtain⟨zf0,zf1,zf2,zf3,zf4,zf5,zf6,zf7,zf8⟩:=zF8 Z6.out;go_wp2;clear e0 e1 e2 e3 e4 e5 e6 e7 e8 y0 y1 y2 y3 y4 y5 y6 y7 y8 zf0 zf1 zf2 zf3 zf4 zf5 zf6 zf7 zf8;obtain⟨F8,hB8,hK8⟩:=F6.out.store9 qG M6.out Z6.out (.int .i64 10) (.string ⟨t.toArray⟩) (.int .i64 dp) (.string ⟨(zO3 q).toArray⟩) (.string ⟨#[]⟩) (.slice none 0 0) (.slice none 0 0) (.slice none 0 0) (.int .i64 pos);have HR:=qK (show RetE R (cloR R.r br bd) n s σ Im w (fun σ' e'=>RsC R U σ (.mk k t m a b As cs subs Ad cd decls At ct tail pos) ((q:Int),dp,some b1) file σ' e') (.returned (.agg #[.int .i64 10,.string ⟨t.toArray⟩,.int .i64 dp,.string ⟨(zO3 q).toArray⟩,.string ⟨#[]⟩,.slice none 0 0,.slice none 0 0,.slice none 0 0,.int .i64 pos])) _ from⟨_,Im1,refA t ((q:Int),dp,some b1) pos none 0 [],rfl,⟨σ1,.mk zk zt zm za zb zAs zcs zsubs zAd zcd zdecls zAt zct ztail zpos,o1,HRes.out.1,HRes.out.2.1,HRes.out.2.2,.inl ⟨H16.out,rfl,rfl⟩⟩,F8.st,F8.sp,F8.gr,xV7 HTn.out⟩);obtain⟨z0,z1,z2,z3,z4,z5,z6,z7,z8⟩:=zZ6 hB8;refine bodyPost_ret (v:=.agg #[.int .i64 10,.string ⟨t.toArray⟩,.int .i64 dp,.string ⟨(zO3 q).toArray⟩,.string ⟨#[]⟩,.slice none 0 0,.slice none 0 0,.slice none 0 0,.int .i64 pos]) ?_ rfl HR.out;simp[results,Tryz.results59,go_sem,z0,z1,z2,z3,z4,z5,z6,z7,z8]
   ·have H16:=qK (show o1.hgt < 16 from by omega);have h16':o1.hgt < 16:=by omega
    have hbw:=(Below.refl w5.heap.size w5).alloc qJ (.cells #[.int .i64 zk,.string ⟨zt.toArray⟩,.int .i64 zm,.string ⟨za.toArray⟩,.string ⟨zb.toArray⟩,.slice zAs zsubs.length zcs,.slice zAd zdecls.length zcd,.slice zAt ztail.length zct,.int .i64 zpos] 67);have F6:=qK (F5.out.below hbw);have R6:=qK (R5.out.keep hbw);have Z6:=qK (Z5.out.keep hbw);have M6:=qK (M5.out.up hbw.size);have N6:=qK (show _∧w.heap.size≤w2.heap.size from⟨N5.out.up hbw.size,N4.out.2⟩);have X6:=qK (Blk.new w5 67 #[.int .i64 zk,.string ⟨zt.toArray⟩,.int .i64 zm,.string ⟨za.toArray⟩,.string ⟨zb.toArray⟩,.slice zAs zsubs.length zcs,.slice zAd zdecls.length zcd,.slice zAt ztail.length zct,.int .i64 zpos]);have O6:=qK ((zZ2 (N:=fun _=>False) (Kp.ofBelow hbw _) (fun _ _ h=>h) (fun _ h=>h)).1 _ O5.out);have NX:=qK (show Mine (zn R (cloR R.r br bd) σ1 Im1) (w5.alloc (.cells #[.int .i64 zk,.string ⟨zt.toArray⟩,.int .i64 zm,.string ⟨za.toArray⟩,.string ⟨zb.toArray⟩,.slice zAs zsubs.length zcs,.slice zAd zdecls.length zcd,.slice zAt ztail.length zct,.int .i64 zpos] 67)) w5.heap.size∧w.heap.size≤w5.heap.size from F5.out.new_ qJ (by simp));have HLt:=qK (show w2.heap.size < w5.heap.size∧w.heap.size+2 < w5.heap.size∧w2.heap.size≠w.heap.size+2 from⟨R5.out.lt,Z5.out.lt,HNe.out⟩);clear hbw;obtain⟨x0,x1,x2,x3,x4,x5,x6,x7,x8⟩:=zZ6 X5.out;have e5:=(zZ6 R6.out).2.2.2.2.2.1;have ef5:=R6.out.free 5;go_upto_region 9 with fail
    clear x0 x1 x2 x3 x4 x5 x6 x7 x8 e5 ef5 d15;generalize w5.alloc (.cells #[.int .i64 zk,.string ⟨zt.toArray⟩,.int .i64 zm,.string ⟨za.toArray⟩,.string ⟨zb.toArray⟩,.slice zAs zsubs.length zcs,.slice zAd zdecls.length zcd,.slice zAt ztail.length zct,.int .i64 zpos] 67)=w6 at F6 R6 Z6 M6 N6 X6 O6 NX ⊢;clear F5 R5 Z5 M5 N5 B5 X5 O5;have R7:=qK (show Blk (w6.setCell ⟨w2.heap.size,5,none⟩ (.slice (some ⟨w5.heap.size,0,none⟩) 1 1)) w2.heap.size 67 #[.int .i64 10,.string ⟨t.toArray⟩,.int .i64 dp,.string ⟨(zO3 q).toArray⟩,.string ⟨#[]⟩,.slice (some ⟨w5.heap.size,0,none⟩) 1 1,.slice none 0 0,.slice none 0 0,.int .i64 pos] from by simpa using R6.out.set_ 5 (.slice (some ⟨w5.heap.size,0,none⟩) 1 1));have F7:=qK (F6.out.cell N6.out.2 N6.out.1 5 (.slice (some ⟨w5.heap.size,0,none⟩) 1 1));have Z7:=qK (Z6.out.far (p:=⟨w2.heap.size,5,none⟩) (fun e=>HLt.out.2.2 e.symm) (.slice (some ⟨w5.heap.size,0,none⟩) 1 1));have X7:=qK (X6.out.far (p:=⟨w2.heap.size,5,none⟩) (fun e=>by have h:w5.heap.size=w2.heap.size:=e;have:=HLt.out.1;omega) (.slice (some ⟨w5.heap.size,0,none⟩) 1 1));have hk7:Kp (· = w2.heap.size) w6 (w6.setCell ⟨w2.heap.size,5,none⟩ (.slice (some ⟨w5.heap.size,0,none⟩) 1 1)):=(Kp.refl (· = w2.heap.size) w6).setCell (p:=⟨w2.heap.size,5,none⟩) rfl _;have M7:=qK (M6.out.up hk7.size);have NX7:=qK (show Mine (zn R (cloR R.r br bd) σ1 Im1) _ w5.heap.size∧w.heap.size≤w5.heap.size from⟨NX.out.1.up hk7.size,NX.out.2⟩);have O7:=qK ((zZ2 hk7 (fun b hb e=>by subst e;exact N6.out.1.2.2 hb) (fun _ h=>h)).1 _ O6.out);clear hk7;generalize w6.setCell ⟨w2.heap.size,5,none⟩ (.slice (some ⟨w5.heap.size,0,none⟩) 1 1)=w7 at R7 F7 Z7 X7 M7 NX7 O7 ⊢;clear F6 R6 Z6 M6 N6 X6 O6 NX;obtain⟨e0,e1,e2,e3,e4,e5,e6,e7,e8⟩:=zZ6 R7.out;obtain⟨y0,y1,y2,y3,y4,y5,y6,y7,y8⟩:=zZ6 Z7.out;obtain⟨zf0,zf1,zf2,zf3,zf4,zf5,zf6,zf7,zf8⟩:=zF8 Z7.out
    go_wp2;clear e0 e1 e2 e3 e4 e5 e6 e7 e8 y0 y1 y2 y3 y4 y5 y6 y7 y8 zf0 zf1 zf2 zf3 zf4 zf5 zf6 zf7 zf8;obtain⟨F8,hB8,hK8⟩:=F7.out.store9 qG M7.out Z7.out (.int .i64 10) (.string ⟨t.toArray⟩) (.int .i64 dp) (.string ⟨(zO3 q).toArray⟩) (.string ⟨#[]⟩) (.slice (some ⟨w5.heap.size,0,none⟩) 1 1) (.slice none 0 0) (.slice none 0 0) (.int .i64 pos);have hX8:=hK8.blk X7.out (fun e=>by have h:w5.heap.size=w.heap.size+2:=e;have:=HLt.out.2.1;omega);have hO8:=(zZ2 hK8 (fun b hb e=>by subst e;exact M7.out.2.2 hb) (fun b hb=>(.inl hb:Im1 b∨b=w5.heap.size))).1 _ O7.out;have F9:=F8.freeze (F:=(· = w5.heap.size)) (fun b hb=>by subst hb;exact⟨NX7.out.1.up hK8.size,NX7.out.2⟩);have hSl:SlI (fun b=>Im1 b∨b=w5.heap.size) _ 9 encE (some ⟨w5.heap.size,0,none⟩) [.mk zk zt zm za zb zAs zcs zsubs zAd zcd zdecls zAt zct ztail zpos]:=⟨hX8.sl zN0 _ (by simp[encE]),by simp,.inr fun a ha=>by injection ha with ha;subst ha;exact .inr rfl⟩;have hOk9:OkI (fun b=>Im1 b∨b=w5.heap.size) _ (refA t ((q:Int),dp,some b1) pos (some ⟨w5.heap.size,0,none⟩) 1 [.mk zk zt zm za zb zAs zcs zsubs zAd zcd zdecls zAt zct ztail zpos]):=okI_refS HTn.out hSl hO8;have HR:=qK (show RetE R (cloR R.r br bd) n s σ Im w (fun σ' e'=>RsC R U σ (.mk k t m a b As cs subs Ad cd decls At ct tail pos) ((q:Int),dp,some b1) file σ' e') (.returned (.agg #[.int .i64 10,.string ⟨t.toArray⟩,.int .i64 dp,.string ⟨(zO3 q).toArray⟩,.string ⟨#[]⟩,.slice (some ⟨w5.heap.size,0,none⟩) 1 1,.slice none 0 0,.slice none 0 0,.int .i64 pos])) _ from⟨_,_,refA t ((q:Int),dp,some b1) pos (some ⟨w5.heap.size,0,none⟩) 1 [.mk zk zt zm za zb zAs zcs zsubs zAd zcd zdecls zAt zct ztail zpos],rfl,⟨σ1,.mk zk zt zm za zb zAs zcs zsubs zAd zcd zdecls zAt zct ztail zpos,o1,HRes.out.1,HRes.out.2.1,HRes.out.2.2,.inr ⟨H16.out,rfl,_,rfl⟩⟩,F9.st,F9.sp,F9.gr,hOk9⟩);obtain⟨z0,z1,z2,z3,z4,z5,z6,z7,z8⟩:=zZ6 hB8
    refine bodyPost_ret (v:=.agg #[.int .i64 10,.string ⟨t.toArray⟩,.int .i64 dp,.string ⟨(zO3 q).toArray⟩,.string ⟨#[]⟩,.slice (some ⟨w5.heap.size,0,none⟩) 1 1,.slice none 0 0,.slice none 0 0,.int .i64 pos]) ?_ rfl HR.out;simp[results,Tryz.results59,go_sem,z0,z1,z2,z3,z4,z5,z6,z7,z8]
structure Lt where
 name:Tx
 subs:List E
 file:Nat
structure Scp where
 fields:List Tx
 lets:List Lt
def lastR:List Lt→Tx→Option Lt
 | [],_=>none
 | p ::r,s=>match lastR r s with | some x=>some x | none=>if p.name=s then some p else none
def findR (s:Tx):List Scp→Int × Int × Option (Lt × List Scp)
 | []=>(0,0,none)
 | x ::r=>match lastR x.lets s with | some b=>(2,(r.length:Int),some (b,x ::r)) | none=>if s∈x.fields then(1,(r.length:Int),none) else findR s r
def resR (im:List (List Tx))(env:List Scp)(lp:List Tx)(file:Nat)(s:Tx):Int × Int × Option (Lt × List Scp):=
 if s∈lp then(3,0,none) else if (findR s env).1=0 then(if s∈im.getD file [] then(4,0,none) else(0,0,none)) else findR s env
def letsP (l:List D)(file:Nat):List Lt:=(l.filter fun d=>decide (d.k=4)).map fun d=>⟨d.l,d.subs,file⟩
def scpOf (l:List D)(file:Nat):Scp:=⟨zH8 l,letsP l file⟩
def refT (t:Tx)(kd dp:Int)(subs:List E)(pos:Int):E:=.mk 10 t dp (zO3 kd) [] subs [] [] pos
def deepR (t:Tx)(kd dp pos:Int)(r:E × Bool):E × Bool:=if 16≤htE 17 r.1 then(refT t kd dp [] pos,true) else(refT t kd dp [r.1] pos,r.2)
def both {α β γ:Type}(x:Option (α × Bool))(y:Option (β × Bool))(f:α→β→γ):Option (γ × Bool):=match x,y with | some p,some q=>some (f p.1 q.1,p.2||q.2) | _,_=>none
mutual
def rzE (L:List E→Nat→List Scp→Option (E × Bool))(im:List (List Tx)):E→List Scp→List Tx→Nat→Option (E × Bool)
 | .mk k t m a b subs decls tail pos,env,lp,file=>
   if k=10 then
    match (resR im env lp file t).2.2 with
    | none=>some (refT t (resR im env lp file t).1 (resR im env lp file t).2.1 [] pos,false)
    | some x=>(L x.1.subs x.1.file x.2).map (deepR t (resR im env lp file t).1 (resR im env lp file t).2.1 pos)
   else both (rzEs L im (if k=15 then[a,b] else[]) 0 subs env lp file) (rzDs L im decls (if k=13 then scpOf decls file ::env else env) (if k=13 then[] else lp) file) fun s d=>.mk k t m a b s d tail pos
def rzEs (L:List E→Nat→List Scp→Option (E × Bool))(im:List (List Tx))(nm:List Tx):Nat→List E→List Scp→List Tx→Nat→Option (List E × Bool)
 | _,[],_,_,_=>some ([],false)
 | i,e ::r,env,lp,file=>both (rzE L im e env (lp++if i=0 then[] else nm) file) (rzEs L im nm (i+1) r env lp file) List.cons
def rzDs (L:List E→Nat→List Scp→Option (E × Bool))(im:List (List Tx)):List D→List Scp→List Tx→Nat→Option (List D × Bool)
 | [],_,_,_=>some ([],false)
 | d ::r,env,lp,file=>both (rzD L im d env lp file) (rzDs L im r env lp file) List.cons
def rzD (L:List E→Nat→List Scp→Option (E × Bool))(im:List (List Tx)):D→List Scp→List Tx→Nat→Option (D × Bool)
 | .mk k p l a b subs body tail lead trail pos,env,lp,file=>both (rzEs L im [] 0 subs env lp file) (rzDs L im body env (lp++if k=6 then[a,b] else[]) file) fun s d=>.mk k p l a b s d tail lead trail pos
end
def rzL (im:List (List Tx)):Nat→List E→Nat→List Scp→Option (E × Bool)
 | 0,_,_,_=>none
 | n+1,[e],file,env=>rzE (rzL im n) im e env [] file
 | _+1,_,_,_=>none
def Mono {α:Type}(rz:Nat→Option α):Prop:=∀ n m r,n≤m→rz n=some r→rz m=some r
theorem Mono.ne {α:Type}{rz:Nat→Option α}(h:Mono rz){n m:Nat}(hm:n≤m)(hn:rz m=none):rz n=none:=by
 cases hr:rz n with
 | none=>rfl
 | some r=>rw[h n m r hm hr] at hn;cases hn
theorem zX0 {α:Type}{rz:Nat→Option α}:∀ {n:Nat},rz n≠none→∃ m,m≤n∧rz m≠none∧∀ q,q < m→rz q=none
 | n,h=>by
   induction n using Nat.strongRecOn with
   | _ n ih=>
     by_cases hq:∃ q,q < n∧rz q≠none
     ·obtain⟨q,h1,h2⟩:=hq;obtain⟨m,h3,h4,h5⟩:=ih q h1 h2;exact⟨m,by omega,h4,h5⟩
     ·refine⟨n,Nat.le_refl _,h,fun q hq2=>?_⟩;cases hr:rz q with
      | none=>rfl
      | some r=>exact absurd ⟨q,hq2,by rw[hr];simp⟩ hq
theorem find_ob {obs:List Ob}(hn:(obs.map (·.blk)).Nodup){o:Ob}(ho:o∈obs):obs.find? (fun x=>decide (x.blk=o.blk))=some o:=by
 cases hf:obs.find? (fun x=>decide (x.blk=o.blk)) with
 | none=>
   rw[List.find?_eq_none] at hf;exact absurd (by simp:decide (o.blk=o.blk)=true) (hf o ho)
 | some x=>
   have h1:=List.find?_some hf;rw[zE6 hn (List.mem_of_find?_eq_some hf) ho (of_decide_eq_true h1)]
def ltAt (objs:List Ob)(p:Tx × Nat):Lt:=match objs.find? (fun o=>decide (o.blk=p.2)) with | some o=>⟨p.1,(zU3 o.d).map plE,o.file⟩ | none=>⟨p.1,[],0⟩
def pvS (objs:List Ob)(x:ScA):Scp:=⟨x.fields,x.lets.map (ltAt objs)⟩
def pv (objs:List Ob)(env:List ScA):List Scp:=env.map (pvS objs)
def EnvL (objs:List Ob)(en:Nat→List ScA):List ScA→Prop
 | []=>True
 | x ::r=>(∀ p∈x.lets,∃ o∈objs,o.blk=p.2∧en o.sc=x ::r)∧EnvL objs en r
theorem xV8 {objs:List Ob}(hn:(objs.map (·.blk)).Nodup){o:Ob}(ho:o∈objs){p:Tx × Nat}(h:o.blk=p.2):ltAt objs p=⟨p.1,(zU3 o.d).map plE,o.file⟩:=by
 unfold ltAt;rw[←h,find_ob hn ho]
structure OkS {X:Type}(σ:GS X):Prop where
 nd:(σ.ρ.objs.map (·.blk)).Nodup
 en:∀ o∈σ.ρ.objs,EnvL σ.ρ.objs σ.en (σ.en o.sc)
structure Grb {X:Type}(σ σ':GS X):Prop where
 ob:∀ o∈σ.ρ.objs,∃ o'∈σ'.ρ.objs,o'.blk=o.blk∧o'.d=o.d∧o'.sc=o.sc∧o'.file=o.file
 en:∀ o∈σ.ρ.objs,σ'.en o.sc=σ.en o.sc
structure Grw {X:Type}(σ σ':GS X):Prop where
 b:Grb σ σ'
 ac:∀ o∈σ.ρ.objs,∀ o'∈σ'.ρ.objs,o'.blk=o.blk→o'.act=o.act
 nw:∀ o'∈σ'.ρ.objs,o'.act=true→∃ o∈σ.ρ.objs,o.blk=o'.blk
section
variable {X:Type}{σ σ1 σ2:GS X}
theorem Grb.refl (σ:GS X):Grb σ σ:=⟨fun o ho=>⟨o,ho,rfl,rfl,rfl,rfl⟩,fun _ _=>rfl⟩
theorem Grb.trans (h:Grb σ σ1)(k:Grb σ1 σ2):Grb σ σ2:=
 ⟨fun o ho=>by
  obtain⟨o1,h1,e1,e2,e3,e4⟩:=h.ob o ho;obtain⟨o2,h2,f1,f2,f3,f4⟩:=k.ob o1 h1;exact⟨o2,h2,f1.trans e1,f2.trans e2,f3.trans e3,f4.trans e4⟩,fun o ho=>by
  obtain⟨o1,h1,e1,e2,e3,e4⟩:=h.ob o ho;have:=k.en o1 h1;rw[e3] at this;exact this.trans (h.en o ho)⟩
theorem Grw.refl (hn:(σ.ρ.objs.map (·.blk)).Nodup):Grw σ σ:=⟨Grb.refl σ,fun _ ho _ ho' e=>by rw[zE6 hn ho' ho e],fun o ho _=>⟨o,ho,rfl⟩⟩
theorem Grw.trans (h:Grw σ σ1)(k:Grw σ1 σ2):Grw σ σ2:=
 ⟨h.b.trans k.b,fun o ho o2 ho2 e=>by
  obtain⟨o1,h1,e1,_⟩:=h.b.ob o ho;exact(k.ac o1 h1 o2 ho2 (e.trans e1.symm)).trans (h.ac o ho o1 h1 e1),fun o2 ho2 ha=>by
  obtain⟨o1,h1,e1⟩:=k.nw o2 ho2 ha;have ha1:o1.act=true:=(k.ac o1 h1 o2 ho2 e1.symm).symm.trans ha;obtain⟨o,h0,e0⟩:=h.nw o1 h1 ha1;exact⟨o,h0,e0.trans e1⟩⟩
theorem Grb.envL (h:Grb σ σ1):∀ {env:List ScA},EnvL σ.ρ.objs σ.en env→EnvL σ1.ρ.objs σ1.en env
 | [],_=>trivial
 | x ::r,hE=>⟨fun p hp=>by
     obtain⟨o,ho,e1,e2⟩:=hE.1 p hp;obtain⟨o1,h1,f1,f2,f3,f4⟩:=h.ob o ho;exact⟨o1,h1,f1.trans e1,by rw[f3,h.en o ho,e2]⟩,h.envL hE.2⟩
theorem Grb.pv (h:Grb σ σ1)(hn:(σ.ρ.objs.map (·.blk)).Nodup)(hn1:(σ1.ρ.objs.map (·.blk)).Nodup):∀ {env:List ScA},EnvL σ.ρ.objs σ.en env→pv σ1.ρ.objs env=pv σ.ρ.objs env
 | [],_=>rfl
 | x ::r,hE=>by
   have ih:=h.pv hn hn1 hE.2;unfold Go.Proofs.YtdgehhgjgifikaaGreatDoor.pv at *;rw[List.map_cons,List.map_cons,ih];congr 1;unfold pvS;congr 1;refine List.map_congr_left fun p hp=>?_;obtain⟨o,ho,e1,_⟩:=hE.1 p hp;obtain⟨o1,h1,f1,f2,_,f4⟩:=h.ob o ho;rw[xV8 hn ho e1,xV8 hn1 h1 (f1.trans e1),f2,f4]
theorem Grb.map {σ':GS X}{g:Ob→Ob}(hob:σ'.ρ.objs=σ.ρ.objs.map g)(hg:∀ o,(g o).blk=o.blk∧(g o).d=o.d∧(g o).sc=o.sc∧(g o).file=o.file)(hen:σ'.en=σ.en):Grb σ σ':=
 ⟨fun o ho=>⟨g o,by rw[hob];exact List.mem_map.2 ⟨o,ho,rfl⟩,hg o⟩,fun o _=>by rw[hen]⟩
theorem OkS.map (h:OkS σ){σ':GS X}{g:Ob→Ob}(hob:σ'.ρ.objs=σ.ρ.objs.map g)(hg:∀ o,(g o).blk=o.blk∧(g o).d=o.d∧(g o).sc=o.sc∧(g o).file=o.file)(hen:σ'.en=σ.en):OkS σ':=by
 refine⟨?_,fun o ho=>?_⟩
 ·have e:(σ.ρ.objs.map g).map (·.blk)=σ.ρ.objs.map (·.blk):=by
   rw[List.map_map];exact List.map_congr_left fun x _=>(hg x).1
  rw[hob,e];exact h.nd
 ·rw[hob] at ho;obtain⟨y,hy,rfl⟩:=List.mem_map.1 ho;have:=(Grb.map hob hg hen).envL (h.en y hy);rw[(hg y).2.2.1];rw[hen] at this ⊢;exact this
theorem Grw.map {σ':GS X}{g:Ob→Ob}(hn:(σ.ρ.objs.map (·.blk)).Nodup)(hob:σ'.ρ.objs=σ.ρ.objs.map g)(hg:∀ o,(g o).blk=o.blk∧(g o).d=o.d∧(g o).sc=o.sc∧(g o).file=o.file)(ha:∀ o∈σ.ρ.objs,(g o).act=o.act)(hen:σ'.en=σ.en):Grw σ σ':=by
 refine⟨Grb.map hob hg hen,fun o ho o' ho' e=>?_,fun o' ho' _=>?_⟩
 ·rw[hob] at ho';obtain⟨y,hy,rfl⟩:=List.mem_map.1 ho';rw[(hg y).1] at e;rw[zE6 hn ho hy e.symm];exact ha y hy
 ·rw[hob] at ho';obtain⟨y,hy,rfl⟩:=List.mem_map.1 ho';exact⟨y,hy,(hg y).1.symm⟩
end
def rzO {X:Type}(im:List (List Tx))(σ:GS X)(N:Nat)(o:Ob):Option (E × Bool):=rzL im N ((zU3 o.d).map plE) o.file (pv σ.ρ.objs (σ.en o.sc))
def DoneOk (im:List (List Tx))(σ:GS Bool):Prop:=∀ o∈σ.ρ.objs,o.act=false→o.done=true→∃ N dp,rzO im σ N o=some (plE o.ex,dp)∧(dp=true→σ.x=true)∧o.hgt=(htE 17 (plE o.ex):Nat)
def ActN (im:List (List Tx))(σ:GS Bool)(N:Nat):Prop:=∀ o∈σ.ρ.objs,o.act=true→rzO im σ N o=none
structure Pre (im:List (List Tx))(σ:GS Bool):Prop where
 ok:OkS σ
 dn:σ.ρ.cyc=false→DoneOk im σ
structure Con {α:Type}(im:List (List Tx))(σ σ':GS Bool)(rz:Nat→Option (α × Bool))(v:α):Prop where
 gr:Grw σ σ'
 ok:OkS σ'
 cy:σ.ρ.cyc=true→σ'.ρ.cyc=true
 fl:σ.x=true→σ'.x=true
 dn:σ'.ρ.cyc=false→DoneOk im σ'
 rs:σ'.ρ.cyc=false→∃ N dp,rz N=some (v,dp)∧σ'.x=(σ.x||dp)
 fu:∀ N,rz N≠none→ActN im σ N→σ'.ρ.cyc=σ.ρ.cyc
theorem Grb.rzO {X:Type}{im:List (List Tx)}{σ σ':GS X}(h:Grb σ σ')(k:OkS σ)(k':OkS σ'){o o':Ob}(ho:o∈σ.ρ.objs)(ho':o'∈σ'.ρ.objs)(e:o'.blk=o.blk)(N:Nat):rzO im σ' N o'=rzO im σ N o:=by
 obtain⟨o2,h2,e1,e2,e3,e4⟩:=h.ob o ho;have:o2=o':=zE6 k'.nd h2 ho' (e1.trans e.symm);subst this;unfold Go.Proofs.YtdgehhgjgifikaaGreatDoor.rzO;rw[e2,e3,e4,h.en o ho,h.pv k.nd k'.nd (k.en o ho)]
section
variable {im:List (List Tx)}{σ σ1 σ2:GS Bool}
theorem DoneOk.grb (h:Grb σ σ1)(k:OkS σ)(k1:OkS σ1)(hx:σ.x=true→σ1.x=true)(hd:DoneOk im σ)
  (hold:∀ o1∈σ1.ρ.objs,o1.act=false→o1.done=true→∃ o∈σ.ρ.objs,o.blk=o1.blk∧o.act=false∧o.done=true∧o1.ex=o.ex∧o1.hgt=o.hgt):DoneOk im σ1:=fun o1 h1 ha hdn=>by
 obtain⟨o,ho,e,h3,h4,h5,h6⟩:=hold o1 h1 ha hdn;obtain⟨N,dp,h7,h8,h9⟩:=hd o ho h3 h4;exact⟨N,dp,by rw[h.rzO k k1 ho h1 e.symm,h5,h7],fun hdp=>hx (h8 hdp),by rw[h6,h5,h9]⟩
theorem Con.cast {α:Type}{rz rz':Nat→Option (α × Bool)}{v v':α}(h:Con im σ σ1 rz v)(hr:∀ N,rz' N=rz N)(hv:v'=v):Con im σ σ1 rz' v':=by
 have:rz'=rz:=funext hr;rw[this,hv];exact h
theorem Con.pre {α:Type}{rz:Nat→Option (α × Bool)}{v:α}(h:Con im σ σ1 rz v):Pre im σ1:=⟨h.ok,h.dn⟩
theorem Con.still (hP:Pre im σ)(hg:Grw σ σ1)(hk:OkS σ1)(hc:σ1.ρ.cyc=σ.ρ.cyc)(hx:σ1.x=σ.x)(hold:∀ o1∈σ1.ρ.objs,o1.act=false→o1.done=true→∃ o∈σ.ρ.objs,o.blk=o1.blk∧o.act=false∧o.done=true∧o1.ex=o.ex∧o1.hgt=o.hgt):Con im σ σ1 (fun _=>some ((),false)) ():=
 ⟨hg,hk,fun h=>hc.trans h,fun h=>hx.trans h,fun h=>(hP.dn (hc.symm.trans h)).grb hg.b hP.ok hk (fun h=>hx.trans h) hold,fun _=>⟨0,false,rfl,by rw[hx,Bool.or_false]⟩,fun _ _ _=>hc⟩
end
theorem Con.nil_ {α:Type}{im:List (List Tx)}{σ:GS Bool}(hP:Pre im σ)(v:α):Con im σ σ (fun _=>some (v,false)) v:=
 ⟨Grw.refl hP.ok.nd,hP.ok,fun h=>h,fun h=>h,hP.dn,fun _=>⟨0,false,rfl,by rw[Bool.or_false]⟩,fun _ _ _=>rfl⟩
theorem Con.envL {α:Type}{im:List (List Tx)}{σ σ':GS Bool}{rz:Nat→Option (α × Bool)}{v:α}{env:List ScA}(h:Con im σ σ' rz v)(hP:Pre im σ)(hE:EnvL σ.ρ.objs σ.en env):EnvL σ'.ρ.objs σ'.en env∧pv σ'.ρ.objs env=pv σ.ρ.objs env:=⟨h.gr.b.envL hE,h.gr.b.pv hP.ok.nd h.ok.nd hE⟩
def Idle {X:Type}(σ:GS X):Prop:=∀ o∈σ.ρ.objs,o.act=false∧o.done=false
structure Lds (σ σ':GS Unit):Prop where
 gr:Grw σ σ'
 ok:OkS σ'
 id:Idle σ→Idle σ'
 cy:σ'.ρ.cyc=σ.ρ.cyc
theorem Lds.refl {σ:GS Unit}(h:OkS σ):Lds σ σ:=⟨Grw.refl h.nd,h,fun h=>h,rfl⟩
theorem Lds.trans {σ σ1 σ2:GS Unit}(h:Lds σ σ1)(k:Lds σ1 σ2):Lds σ σ2:=⟨h.gr.trans k.gr,k.ok,fun q=>k.id (h.id q),k.cy.trans h.cy⟩
theorem yQ5 {α:Type}{z:Zn}{w0 wx:World}{k:Nat}{enc:α→List Value}{A':Option Addr}{xs:List α}(hz:z.Ok w0)(hs:Sl wx wx.heap.size k enc A' xs)(hn:∀ a,xs≠[]→A'=some a→w0.heap.size≤a.block):∀ q,(xs≠[]∧∃ ad,A'=some ad∧ad.block=q)→Mine z wx q∧w0.heap.size≤q:=fun q ⟨hnt,ad,h1,h2⟩=>by
 have h3:=hn ad hnt h1;have h4:ad.block < wx.heap.size:=by
  rcases hs with h5 | ⟨b5,o5,h5,h6,_⟩
  ·exact absurd h5 hnt
  ·exact vZ
 rw[h2] at h3 h4;exact⟨hz.new_ h3 h4,h3⟩
theorem fresh_sl {α:Type}{Im:Nat→Prop}{wx:World}{k:Nat}{enc:α→List Value}{A':Option Addr}{xs:List α}(hs:Sl wx wx.heap.size k enc A' xs)(hl:xs.length≤1048576):SlI (fun q=>Im q∨(xs≠[]∧∃ ad,A'=some ad∧ad.block=q)) wx k enc A' xs:=by
 refine⟨hs,hl,?_⟩;by_cases hnt:xs=[]
 ·exact .inl hnt
 ·exact xP
def RetII (w:World)(l:List Imp)(e:Ending)(w':World):Prop:=∃ A c,e=.returned (.slice A l.length c)∧SlN w' w'.heap.size 3 encI A l∧Below w.heap.size w w'∧∀ a,l≠[]→A=some a→w.heap.size≤a.block
theorem xV9:ElT Tryz.prog 55 60 3 40:=ElT.mk_ (z:=.agg #[.string ByteArray.empty,.string ByteArray.empty,.int .i64 0]) Tryz.underlying55 qF qF (by decide)
theorem yF0 (l:List Imp):∀ u∈l.flatMap encI,u.oneCell'=true:=fun u hu=>by
 obtain⟨x,_,hx⟩:=List.mem_flatMap.1 hu;simp only[encI,List.mem_cons,List.not_mem_nil,or_false] at hx;rcases hx with rfl | rfl | rfl <;> rfl
set_option maxRecDepth 100000 in
set_option maxHeartbeats 1000000 in
theorem yB9 (A:Option Addr)(c:Nat)(l:List Imp)(w:World)(hA:SlN w w.heap.size 3 encI A l):Calls Tryz.prog 61 #[.slice A l.length c] w (RetII w l):=by
 obtain⟨hA,hl⟩:=hA;rcases hA with rfl | ⟨b,off,rfl,hb,hc⟩
 ·rcases A with _ | ad
  ·refine(AnyE.slices_Clone_nil Tryz.cloneI 0 c w).mono ?_;rintro e w' ⟨rfl,rfl⟩;exact⟨none,0,rfl,⟨Sl.nil_,Nat.zero_le _⟩,Below.refl _ _,fun a h=>absurd rfl h⟩
  ·have q:=fun(w:World)=>Lib.run_eql_slice_nil w _ _ (some ad) 0 c 0 0 Tryz.underlying55;have hac:=Acc.marked w #[] w.heap.size 60 3 0 (0,0) rfl;show Calls Tryz.prog 61 #[.slice (some ad) 0 c] w _;go_enter Tryz.func61,Tryz.ntmps61
   go_wp2_with (at_builtin;refine zT3 _ rfl (.tmp 5) (.tmp 6) 55 rfl w.heap.size 60 3 40 xV9 (.slice (some ⟨w.heap.size,0,none⟩) 0 0) 0 _ rfl hac (some ad) 0 c [] rfl ⟨rfl,fun h=>absurd h (by decide)⟩ (by simp) (by simp[maxLen]) qG (by simp) ?_;intro v' w1 hacc' _ hb' _ _)
   go_ret;obtain⟨A',c',rfl⟩:=hacc'.shape;exact⟨A',c',rfl,⟨.inl rfl,Nat.zero_le _⟩,(qH.alloc qJ _).trans hb',fun a h=>absurd rfl h⟩
 ·obtain⟨_,h0,i,z,e1,e2,e3,e4,e5⟩:=xV9;have hsr:=(Sl.src (.inr ⟨b,off,rfl,hb,hc⟩:Sl w w.heap.size 3 encI (some ⟨b,off,none⟩) l) zN2);refine(AnyE.slices_Clone Tryz.cloneI i z 3 40 e1 e2 e3 e4 e5 h0 Tryz.sizeOf60 b off l.length c (l.flatMap encI) w (zH2 zN2 l) (by simp only[maxLen];omega) qG (fun j u hu=>?_) (yF0 l)).mono ?_
  ·rcases Nat.eq_zero_or_pos l.length with h0' | hpos
   ·obtain rfl:l=[]:=List.eq_nil_of_length_eq_zero h0';simp at hu
   ·exact xJ
  ·rintro e w' ⟨v,rfl,h1,h2,h3⟩;have hA:Acc w' w.heap.size 60 3 v l.length (l.flatMap encI):=.inl h1;obtain⟨A',c',rfl⟩:=hA.shape;obtain⟨_,h4⟩:=zG1 zN2 hA (by decide);exact⟨A',c',rfl,⟨h4,hl⟩,h3,fun a _ ha=>by subst ha;exact(h1.lt a.block rfl).1⟩
structure FI (Im:Nat→Prop)(w:World)(f:FA):Prop where
 pkg:f.pkg.length≤maxLen
 nm:∀ x∈f.imps,x.name.length≤maxLen
 im:SlI Im w 3 encI f.Ai f.imps
 ds:SlI Im w 11 encD f.Ad f.decls
 ok:OkIds Im w f.decls
 tl:SlI Im w 1 encS f.At f.tail
theorem FI.kept {Im Im' N:Nat→Prop}{w w':World}{f:FA}(h:FI Im w f)(hk:Kp N w w')(hN:∀ b,Im b→¬ N b)(hI:∀ b,Im b→Im' b):FI Im' w' f:=
 ⟨h.pkg,h.nm,h.im.kept hk hN hI,h.ds.kept hk hN hI,(zZ2 hk hN hI).2.2.2 _ h.ok,h.tl.kept hk hN hI⟩
theorem FI.okF {Im:Nat→Prop}{w:World}{f:FA}(h:FI Im w f):OkF w w.heap.size f:=⟨h.pkg,h.im.n,h.nm,h.ds.n,xY7.2.2.2 _ h.ok,h.tl.n⟩
section
variable {X:Type}{w0 w1 wx wy:World}{p:PA}{s s':Nat}{R:RF}{C:Clo X}{env:List ScA}{σ σ':GS X}{Im Im':Nat→Prop}{v:Value}{fas:List FA}{N:Nat→Prop}
structure BtwR (w0 w1:World)(p:PA)(s:Nat)(R:RF)(C:Clo X)(env:List ScA)(σ:GS X)(Im:Nat→Prop)(wx:World):Prop where
 st:St R C 1099511627776 s σ Im wx
 pk:PkI Im wx R p.files
 en:EnvI Im wx (.pointer (some ⟨R.root,0,none⟩)) env
 kn:EnvK σ.ρ.objs env
 nb:∀ b,Im b→b < w0.heap.size∨w1.heap.size≤b
 mo:∀ b,(zn R C σ Im).Mut b→w1.heap.size≤b
 nu:R.uB.length=p.files.length
 lo:Below w1.heap.size w1 wx
theorem BtwR.step (h:BtwR w0 w1 p s R C env σ Im wx)(hS:St R C 1099511627776 s' σ' Im' wy)(hQ:Sp (zn R C σ Im) wx (zn R C σ' Im') wy)(hG:Gr wx σ σ'):BtwR w0 w1 p s' R C env σ' Im' wy:=by
 have hN:∀ b,Im b→¬ (zn R C σ Im).Mut b:=fun b hb hm=>(h.st.zo.mu b hm).2 hb;exact⟨hS,h.pk.kept hQ.kp hN hQ.im,h.en.kept hQ.kp hN hQ.im,h.kn.gr hG,fun b hb=>(hQ.ni b hb).elim (h.nb b) fun h2=>.inr (Nat.le_trans h.lo.size h2),fun b hb=>(hQ.mu b hb).elim (h.mo b) fun h2=>Nat.le_trans h.lo.size h2,h.nu,
  h.lo.trans (hQ.kp.toBelow h.lo.size fun b hb hm=>by have:=h.mo b hm;omega)⟩
theorem BtwR.write (h:BtwR w0 w1 p s R C env σ Im wx)(hk:Kp N wx wy)(hN:∀ b,N b→w1.heap.size≤b∧¬ (zn R C σ Im).Mut b∧¬ Im b):BtwR w0 w1 p s R C env σ Im wy:=by
 have hi:∀ b,Im b→¬ N b:=fun b hb hn=>(hN b hn).2.2 hb;exact⟨h.st.kept hk fun b hb=>(hN b hb).2,h.pk.kept hk hi (fun _ h=>h),h.en.kept hk hi (fun _ h=>h),h.kn,h.nb,h.mo,h.nu,h.lo.trans (hk.toBelow h.lo.size fun b hb hn=>by have:=(hN b hn).1;omega)⟩
theorem BtwR.below (h:BtwR w0 w1 p s R C env σ Im wx)(hb:Below wx.heap.size wx wy):BtwR w0 w1 p s R C env σ Im wy:=h.write (N:=fun _=>False) (Kp.ofBelow hb _) fun _ h=>h.elim
theorem BtwR.less (h:BtwR w0 w1 p s R C env σ Im wx)(hs:s'≤s):BtwR w0 w1 p s' R C env σ Im wx:=⟨h.st.less hs qJ,h.pk,h.en,h.kn,h.nb,h.mo,h.nu,h.lo⟩
theorem BtwR.freeze (h:BtwR w0 w1 p s R C env σ Im wx){F:Nat→Prop}(hF:∀ b,F b→Mine (zn R C σ Im) wx b∧w1.heap.size≤b):BtwR w0 w1 p s R C env σ (fun b=>Im b∨F b) wx:=by
 have hk:Kp (fun _=>False) wx wx:=Kp.refl _ _;exact⟨h.st.freeze fun b hb=>⟨(hF b hb).1,trivial⟩,h.pk.kept hk (fun _ _ h=>h) (fun _ h=>.inl h),h.en.kept hk (fun _ _ h=>h) (fun _ h=>.inl h),h.kn,fun b hb=>hb.elim (h.nb b) fun h2=>.inr (hF b h2).2,h.mo,h.nu,h.lo⟩
def MineR (R:RF)(C:Clo X)(σ:GS X)(Im:Nat→Prop)(w1 wx:World)(b:Nat):Prop:=Mine (zn R C σ Im) wx b∧w1.heap.size≤b
theorem MineR.up {b:Nat}(h:MineR R C σ Im w1 wx b)(hs:wx.heap.size≤wy.heap.size):MineR R C σ Im w1 wy b:=⟨h.1.up hs,h.2⟩
theorem MineR.step {b:Nat}(h:MineR R C σ Im w1 wx b)(hQ:Sp (zn R C σ Im) wx (zn R C σ' Im') wy):MineR R C σ' Im' w1 wy b:=⟨hQ.own h.1,h.2⟩
theorem MineR.freeze {b:Nat}(h:MineR R C σ Im w1 wx b){F:Nat→Prop}(hF:¬ F b):MineR R C σ (fun b=>Im b∨F b) w1 wx b:=⟨⟨h.1.1,h.1.2.1,fun hb=>hb.elim h.1.2.2 hF⟩,h.2⟩
theorem BtwR.new_ (h:BtwR w0 w1 p s R C env σ Im wx){b:Nat}(hb:wx.heap.size≤b)(hs:b < wy.heap.size):MineR R C σ Im w1 wy b:=⟨h.st.zo.new_ hb hs,Nat.le_trans h.lo.size hb⟩
structure FsR (R:RF)(C:Clo X)(w1:World)(bo:Nat)(v:Value)(fas:List FA)(σ:GS X)(Im:Nat→Prop)(wx:World):Prop where
 ac:Acc wx 0 58 4 v fas.length (fas.flatMap encF)
 ma:∀ b,v.ownBlock=some b→MineR R C σ Im w1 wx b∧b≠bo
 ok:∀ f∈fas,FI Im wx f
theorem FsR.nil_ {bo:Nat}:FsR R C w1 bo (.slice none 0 0) [] σ Im wx:=⟨Acc.nil_ _ _ _ _,fun b hb=>(by cases hb),fun _ h=>(by cases h)⟩
theorem FsR.write {bo:Nat}(h:FsR R C w1 bo v fas σ Im wx)(hk:Kp N wx wy)(h1:∀ b,v.ownBlock=some b→¬ N b)(h2:∀ b,Im b→¬ N b):FsR R C w1 bo v fas σ Im wy:=
 ⟨zE9 h.ac hk h1,fun b hb=>⟨(h.ma b hb).1.up hk.size,(h.ma b hb).2⟩,fun f hf=>(h.ok f hf).kept hk h2 (fun _ h=>h)⟩
theorem FsR.below {bo:Nat}(h:FsR R C w1 bo v fas σ Im wx)(hb:Below wx.heap.size wx wy):FsR R C w1 bo v fas σ Im wy:=h.write (N:=fun _=>False) (Kp.ofBelow hb _) (fun _ _ h=>h) fun _ _ h=>h
theorem FsR.step {bo:Nat}(h:FsR R C w1 bo v fas σ Im wx)(hz:(zn R C σ Im).Ok wx)(hQ:Sp (zn R C σ Im) wx (zn R C σ' Im') wy):FsR R C w1 bo v fas σ' Im' wy:=
 ⟨zE9 h.ac hQ.kp fun b hb=>(h.ma b hb).1.1.2.1,fun b hb=>⟨(h.ma b hb).1.step hQ,(h.ma b hb).2⟩,fun f hf=>(h.ok f hf).kept hQ.kp (fun b hb hm=>(hz.mu b hm).2 hb) hQ.im⟩
theorem FsR.freeze {bo:Nat}(h:FsR R C w1 bo v fas σ Im wx){F:Nat→Prop}(hF:∀ b,v.ownBlock=some b→¬ F b):FsR R C w1 bo v fas σ (fun b=>Im b∨F b) wx:=
 ⟨h.ac,fun b hb=>⟨(h.ma b hb).1.freeze (hF b hb),(h.ma b hb).2⟩,fun f hf=>(h.ok f hf).kept (N:=fun _=>False) (Kp.refl _ _) (fun _ _ h=>h) (fun _ h=>.inl h)⟩
theorem FsR.app {bo:Nat}(h:FsR R C w1 bo v fas σ Im wx)(hz:(zn R C σ Im).Ok wx)(hw:w1.heap.size≤wx.heap.size)(hbo:bo < wx.heap.size){f':FA}(he:FI Im wx f'){o:Obj}{v':Value}(hac:Acc wy 0 58 4 v' (fas.length+1) (fas.flatMap encF++encF f'))(hg:(wx.alloc o).grownBy wy v.ownBlock)(hob:v'.ownBlock=v.ownBlock∨∃ g,v'.ownBlock=some g∧(wx.alloc o).heap.size≤g) :
  FsR R C w1 bo v' (fas++ [f']) σ Im wy∧Kp (fun b=>v.ownBlock=some b) wx wy:=by
 have hk:Kp (fun b=>v.ownBlock=some b) wx wy:=((Kp.refl _ wx).alloc o).grown hg fun k hk=>.inl hk;have hN:∀ b,Im b→¬ v.ownBlock=some b:=fun b hb hv=>(h.ma b hv).1.1.2.2 hb;refine⟨⟨?_,fun b hb=>?_,fun f hf=>?_⟩,hk⟩
 ·exact xG
 ·rcases hob with h1 | ⟨g,h1,h2⟩
  ·have:=h.ma b (h1▸hb);exact⟨this.1.up hk.size,this.2⟩
  ·rw[h1] at hb;injection hb with hb
   subst hb;simp only[World.size_alloc] at h2;have hlt:g < wy.heap.size:=by
    rcases hac with h3 | ⟨_,g2,off,h3,h4,_⟩
    ·exact(h3.lt g h1).2
    ·rw[h3] at h1;injection h1 with h1
     exact h1▸h4
   exact⟨⟨hz.new_ qG hlt,by omega⟩,by omega⟩
 ·rcases List.mem_append.1 hf with hf | hf
  ·exact(h.ok f hf).kept hk hN (fun _ h=>h)
  ·rw[List.mem_singleton.1 hf];exact he.kept hk hN (fun _ h=>h)
end
def outF (fs:List Fl)(rs:List (List D)):List Fl:=(fs.zip rs).map fun q=>⟨q.1.pkg,q.1.imps,q.2,q.1.tail⟩
def FsD (p:PA)(i:Nat)(rs:List (List DA))(fas:List FA):Prop:=fas.length=i∧rs.length=i∧fas.map (fun f=>(f.pkg,f.imps,f.decls,f.tail))=((p.files.take i).zip rs).map fun q=>(q.1.pkg,q.1.imps,q.2,q.1.tail)
theorem FsD.snoc {p:PA}{i:Nat}{rs:List (List DA)}{fas:List FA}{d:List DA}{g:FA}(h:FsD p i rs fas)(hi:i < p.files.length)(hg:(g.pkg,g.imps,g.decls,g.tail)=(p.files[i].pkg,p.files[i].imps,d,p.files[i].tail)):FsD p (i+1) (rs++ [d]) (fas++ [g]):=by
 obtain⟨h1,h2,h3⟩:=h;refine⟨by simp[h1],by simp[h2],?_⟩;rw[List.map_append,h3,List.take_succ_eq_append_getElem hi,List.zip_append (by rw[List.length_take,h2];omega),List.map_append];congr 1;simp only[List.map_cons,List.map_nil,List.zip_cons_cons,List.zip_nil_right];rw[hg]
theorem FsD.out {p:PA}{rs:List (List DA)}{fas:List FA}(h:FsD p p.files.length rs fas):fas.map plF=outF (plP p).files (rs.map plDs):=by
 obtain⟨h1,h2,h3⟩:=h;rw[List.take_length] at h3;have h4:=congrArg (List.map fun q:Tx × List Imp × List DA × List Tx=>(⟨q.1,q.2.1,plDs q.2.2.1,q.2.2.2⟩:Fl)) h3;rw[List.map_map,List.map_map] at h4;unfold outF plP;rw[List.zip_map,List.map_map];exact h4
theorem zD3 {w:World}{g:Nat}{ty:TypeId}{v0 v1:Value}(h:Blk w g ty #[v0,v1]):w.cell? ⟨g,0,none⟩=some v0∧w.cell? ⟨g,1,none⟩=some v1:=⟨h.cell 0,h.cell 1⟩
theorem res2 {w:World}{g:Nat}{ty:TypeId}{z0 z1:Value}(h:Blk w g ty #[z0,z1])(v0 v1:Value):Blk ((w.setCell ⟨g,0,none⟩ v0).setCell ⟨g,1,none⟩ v1) g ty #[v0,v1]∧Kp (· = g) w ((w.setCell ⟨g,0,none⟩ v0).setCell ⟨g,1,none⟩ v1):=
 ⟨by simpa using(h.set_ 0 v0).set_ 1 v1,((Kp.refl (· = g) w).setCell (p:=⟨g,0,none⟩) rfl v0).setCell (p:=⟨g,1,none⟩) rfl v1⟩
def RL (R:RF):UseR Bool:=RsU R 1099511627776
theorem declsR {R:RF}{br bd:Nat}(hU:R.use=.func (.func 59) #[] #[.pointer (some ⟨br,0,none⟩),.pointer (some ⟨bd,0,none⟩)])(l:List DA):zQ2 R (cloR R.r br bd) 1099511627776 (RL R) l:=
 zI1 hU Tryz.call59 (yM9 hU (fun _ _ h=>cloR_any h) 1099511627776) l
end Go.Proofs.YtdgehhgjgifikaaGreatDoor
