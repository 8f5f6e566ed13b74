/- What the claim needs of:ZX QA QB. -/
import Derived.Test.YtdgehhgjgifikaaGreatDoorN34
import Derived.Laws.EntriesVeiled
namespace Go.Proofs.YtdgehhgjgifikaaGreatDoor
open Go.RowKit
theorem xW5 {Im:Nat→Prop}{w:World}{t:Tx}{x:Int × Int × Option Nat}{pos:Int}(h:t.length≤maxLen):OkI Im w (refA t x pos none 0 []):=by
 unfold refA
 rw[OkI,OkIs,OkIds]
 have hk:(zP6 x.1).length≤maxLen:=by
  unfold zP6
  repeat' split
  all_goals (simp[zT8,zM0,wLet,zD0,zT7,maxLen])
 exact⟨⟨h,hk,Nat.zero_le _⟩,SlI.nil_ _ _ _ _ _,trivial,SlI.nil_ _ _ _ _ _,trivial,SlI.nil_ _ _ _ _ _⟩
theorem okI_refS {Im:Nat→Prop}{w:World}{t:Tx}{x:Int × Int × Option Nat}{pos:Int}{A:Option Addr}{c:Nat}{e:EA}(h:t.length≤maxLen)(hs:SlI Im w 9 encE A [e])(he:OkI Im w e):OkI Im w (refA t x pos A c [e]):=by
 unfold refA
 rw[OkI,OkIds]
 have hk:(zP6 x.1).length≤maxLen:=by
  unfold zP6
  repeat' split
  all_goals (simp[zT8,zM0,wLet,zD0,zT7,maxLen])
 exact⟨⟨h,hk,Nat.zero_le _⟩,hs,⟨he,trivial⟩,SlI.nil_ _ _ _ _ _,trivial,SlI.nil_ _ _ _ _ _⟩
set_option maxRecDepth 100000 in
set_option maxHeartbeats 4000000 in
theorem cloR_any {R:RF}{br bd n:Nat}{U:UseR Bool}(hRv:RsvOk R (cloR R.r br bd) n U):yV7 R (cloR R.r br bd) n (RsC R U) 59 #[.pointer (some ⟨br,0,none⟩),.pointer (some ⟨bd,0,none⟩)]:=by
 intro σ Im w s k t m a b As cs subs Ad cd decls At ct tail pos x file hS hOk hx hf hkd
 obtain⟨w1,hw1⟩:∃ w1,(((w.alloc (.cells #[.int .i64 k,.string ⟨t.toArray⟩,.int .i64 m,.string ⟨a.toArray⟩,.string ⟨b.toArray⟩,.slice As subs.length cs,.slice Ad decls.length cd,.slice At tail.length ct,.int .i64 pos] 67)).alloc (.cells #[.int .i64 (file:Nat),.int .i64 pos,.string ⟨t.toArray⟩,.int .i64 x.1,.int .i64 x.2.1] 52)).alloc (.cells #[.int .i64 0,.string ⟨#[]⟩,.int .i64 0,.string ⟨#[]⟩,.string ⟨#[]⟩,.slice none 0 0,.slice none 0 0,.slice none 0 0,.int .i64 0] 67))=w1:=⟨_,rfl⟩
 have hb1:Below w.heap.size w w1:=by rw[←hw1];exact((((Below.refl w.heap.size w).alloc (Nat.le_refl _) _).alloc (by simp) _).alloc (by simp;omega) _)
 have hz1:w1.heap.size=w.heap.size+1+1+1:=by rw[←hw1];simp
 have F1:=Lib.hid ((Fr.start (hS.less (Nat.le_succ s) (Nat.le_refl n))).below hb1)
 have M1:=Lib.hid (show Mine (zn R (cloR R.r br bd) σ Im) w1 (w.heap.size+2)∧Mine (zn R (cloR R.r br bd) σ Im) w1 w.heap.size from⟨hS.zo.new_ (by omega) (by omega),hS.zo.new_ (by omega) (by omega)⟩)
 have B1:=Lib.hid (show Blk w1 w.heap.size 67 #[.int .i64 k,.string ⟨t.toArray⟩,.int .i64 m,.string ⟨a.toArray⟩,.string ⟨b.toArray⟩,.slice As subs.length cs,.slice Ad decls.length cd,.slice At tail.length ct,.int .i64 pos] from by rw[←hw1];exact((Blk.new w _ _).alloc _).alloc _)
 have V1:=Lib.hid (show Blk w1 (w.heap.size+1) 52 #[.int .i64 (file:Nat),.int .i64 pos,.string ⟨t.toArray⟩,.int .i64 x.1,.int .i64 x.2.1] from by
  rw[←hw1]
  have:=Blk.new (w.alloc (.cells #[.int .i64 k,.string ⟨t.toArray⟩,.int .i64 m,.string ⟨a.toArray⟩,.string ⟨b.toArray⟩,.slice As subs.length cs,.slice Ad decls.length cd,.slice At tail.length ct,.int .i64 pos] 67)) 52 #[.int .i64 (file:Nat),.int .i64 pos,.string ⟨t.toArray⟩,.int .i64 x.1,.int .i64 x.2.1]
  rw[World.size_alloc] at this
  exact this.alloc _)
 have Z1:=Lib.hid (show Blk w1 (w.heap.size+2) 67 #[.int .i64 0,.string ⟨#[]⟩,.int .i64 0,.string ⟨#[]⟩,.string ⟨#[]⟩,.slice none 0 0,.slice none 0 0,.slice none 0 0,.int .i64 0] from by
  rw[←hw1]
  have:=Blk.new ((w.alloc (.cells #[.int .i64 k,.string ⟨t.toArray⟩,.int .i64 m,.string ⟨a.toArray⟩,.string ⟨b.toArray⟩,.slice As subs.length cs,.slice Ad decls.length cd,.slice At tail.length ct,.int .i64 pos] 67)).alloc (.cells #[.int .i64 (file:Nat),.int .i64 pos,.string ⟨t.toArray⟩,.int .i64 x.1,.int .i64 x.2.1] 52)) 67 #[.int .i64 0,.string ⟨#[]⟩,.int .i64 0,.string ⟨#[]⟩,.string ⟨#[]⟩,.slice none 0 0,.slice none 0 0,.slice none 0 0,.int .i64 0]
  rw[World.size_alloc,World.size_alloc] at this
  exact this)
 have O1:=Lib.hid ((zZ5 (Kp.ofBelow hb1 (fun _=>False)) (fun _ _ h=>h) (fun _ h=>h)).1 _ hOk)
 have HRv:=Lib.hid hRv
 have HTn:=Lib.hid (show t.length≤maxLen from hOk.1.1)
 have HX:=Lib.hid hx
 obtain⟨x0,dp,ob⟩:=x
 obtain⟨q,hq⟩:∃ q:Nat,x0=(q:Int):=⟨x0.toNat,by have:=hkd.1;dsimp only at this;omega⟩
 subst hq
 have hq5:q < 5:=by have:=hkd.2;dsimp only at this;omega
 have hq5I:(q:Int) < 5:=by omega
 have HWd:=Lib.hid (show ([.string ⟨#[117,110,107,110,111,119,110]⟩,.string ⟨#[102,105,101,108,100]⟩,.string ⟨#[108,101,116]⟩,.string ⟨#[108,111,111,112]⟩,.string ⟨#[112,97,99,107,97,103,101]⟩]:List Value)[q]'(by simp only[List.length_cons,List.length_nil];omega)=.string ⟨(zP6 q).toArray⟩ from by
  match q,hq5 with
  | 0,_=>rfl
  | 1,_=>rfl
  | 2,_=>rfl
  | 3,_=>rfl
  | 4,_=>rfl)
 clear hS hOk hx hf hb1 hRv hkd
 dsimp only at B1 V1 Z1 F1 M1 O1
 simp only[encE,List.append_toArray,List.cons_append,List.nil_append]
 change Calls Tryz.prog 59 #[.agg #[.int .i64 k,.string ⟨t.toArray⟩,.int .i64 m,.string ⟨a.toArray⟩,.string ⟨b.toArray⟩,.slice As subs.length cs,.slice Ad decls.length cd,.slice At tail.length ct,.int .i64 pos],.agg #[.int .i64 (file:Nat),.int .i64 pos,.string ⟨t.toArray⟩,.int .i64 (q:Nat),.int .i64 dp],yV4 ob,.pointer (some ⟨br,0,none⟩),.pointer (some ⟨bd,0,none⟩)] w _
 go_enter Tryz.func59,Tryz.ntmps59
 go_upto_region 1 with fail
 clear hw1
 obtain⟨e0,e1,e2,e3,e4,e5,e6,e7,e8⟩:=zZ6 B1.out
 obtain⟨u0,u1,u2,u3,u4⟩:=useC V1.out
 go_upto_region 2 with fail
 rw[HWd.out]
 have hbw:=(Below.refl w1.heap.size w1).alloc (Nat.le_refl _) (.cells #[.string ⟨#[117,110,107,110,111,119,110]⟩,.string ⟨#[102,105,101,108,100]⟩,.string ⟨#[108,101,116]⟩,.string ⟨#[108,111,111,112]⟩,.string ⟨#[112,97,99,107,97,103,101]⟩] 9)
 have F2:=Lib.hid (F1.out.below hbw)
 have B2:=Lib.hid (B1.out.keep hbw)
 have V2:=Lib.hid (V1.out.keep hbw)
 have Z2:=Lib.hid (Z1.out.keep hbw)
 have M2:=Lib.hid (M1.out.1.up hbw.size)
 clear e0 e1 e2 e3 e4 e5 e6 e7 e8 u0 u1 u2 u3 u4 hbw
 generalize w1.alloc (.cells #[.string ⟨#[117,110,107,110,111,119,110]⟩,.string ⟨#[102,105,101,108,100]⟩,.string ⟨#[108,101,116]⟩,.string ⟨#[108,111,111,112]⟩,.string ⟨#[112,97,99,107,97,103,101]⟩] 9)=w2 at F2 B2 V2 Z2 M2 ⊢
 clear F1 B1 V1 Z1 M1 O1
 obtain⟨e0,e1,e2,e3,e4,e5,e6,e7,e8⟩:=zZ6 B2.out
 obtain⟨u0,u1,u2,u3,u4⟩:=useC V2.out
 go_upto_region 3 with fail
 have hbw:=(Below.refl w2.heap.size w2).alloc (Nat.le_refl _) (.cells #[.int .i64 10,.string ⟨t.toArray⟩,.int .i64 dp,.string ⟨(zP6 q).toArray⟩,.string ⟨#[]⟩,.slice none 0 0,.slice none 0 0,.slice none 0 0,.int .i64 pos] 67)
 have F3:=Lib.hid (F2.out.below hbw)
 have R3:=Lib.hid (Blk.new w2 67 #[.int .i64 10,.string ⟨t.toArray⟩,.int .i64 dp,.string ⟨(zP6 q).toArray⟩,.string ⟨#[]⟩,.slice none 0 0,.slice none 0 0,.slice none 0 0,.int .i64 pos])
 have Z3:=Lib.hid (Z2.out.keep hbw)
 have M3:=Lib.hid (M2.out.up hbw.size)
 have N3:=Lib.hid (show Mine (zn R (cloR R.r br bd) σ Im) (w2.alloc (.cells #[.int .i64 10,.string ⟨t.toArray⟩,.int .i64 dp,.string ⟨(zP6 q).toArray⟩,.string ⟨#[]⟩,.slice none 0 0,.slice none 0 0,.slice none 0 0,.int .i64 pos] 67)) w2.heap.size∧w.heap.size≤w2.heap.size from F2.out.new_ (Nat.le_refl _) (by simp))
 clear e0 e1 e2 e3 e4 e5 e6 e7 e8 u0 u1 u2 u3 u4 hbw
 generalize w2.alloc (.cells #[.int .i64 10,.string ⟨t.toArray⟩,.int .i64 dp,.string ⟨(zP6 q).toArray⟩,.string ⟨#[]⟩,.slice none 0 0,.slice none 0 0,.slice none 0 0,.int .i64 pos] 67)=w3 at F3 R3 Z3 M3 N3 ⊢
 have HNe:=Lib.hid (show w2.heap.size≠w.heap.size+2 from fun e=>by have:=Z2.out.lt;omega)
 clear F2 B2 V2 Z2 M2
 cases ob with
 | none=>
   obtain⟨e0,e1,e2,e3,e4,e5,e6,e7,e8⟩:=zZ6 R3.out
   obtain⟨y0,y1,y2,y3,y4,y5,y6,y7,y8⟩:=zZ6 Z3.out
   obtain⟨zf0,zf1,zf2,zf3,zf4,zf5,zf6,zf7,zf8⟩:=zK7 Z3.out
   dsimp only[yV4]
   go_wp2
   clear e0 e1 e2 e3 e4 e5 e6 e7 e8 y0 y1 y2 y3 y4 y5 y6 y7 y8 zf0 zf1 zf2 zf3 zf4 zf5 zf6 zf7 zf8
   obtain⟨F6,hB6,hK6⟩:=F3.out.store9 (by omega) M3.out Z3.out (.int .i64 10) (.string ⟨t.toArray⟩) (.int .i64 dp) (.string ⟨(zP6 q).toArray⟩) (.string ⟨#[]⟩) (.slice none 0 0) (.slice none 0 0) (.slice none 0 0) (.int .i64 pos)
   have HR:=Lib.hid (show RetE R (cloR R.r br bd) n s σ Im w (fun σ' e'=>RsC R U σ (.mk k t m a b As cs subs Ad cd decls At ct tail pos) ((q:Int),dp,none) file σ' e') (.returned (.agg #[.int .i64 10,.string ⟨t.toArray⟩,.int .i64 dp,.string ⟨(zP6 q).toArray⟩,.string ⟨#[]⟩,.slice none 0 0,.slice none 0 0,.slice none 0 0,.int .i64 pos])) _ from⟨_,Im,refA t ((q:Int),dp,none) pos none 0 [],rfl,⟨rfl,rfl⟩,F6.st,F6.sp,F6.gr,xW5 HTn.out⟩)
   obtain⟨z0,z1,z2,z3,z4,z5,z6,z7,z8⟩:=zZ6 hB6
   refine bodyPost_ret (v:=.agg #[.int .i64 10,.string ⟨t.toArray⟩,.int .i64 dp,.string ⟨(zP6 q).toArray⟩,.string ⟨#[]⟩,.slice none 0 0,.slice none 0 0,.slice none 0 0,.int .i64 pos]) ?_ rfl HR.out
   simp[results,Tryz.results59,go_sem,z0,z1,z2,z3,z4,z5,z6,z7,z8]
 | some b1=>
   dsimp only[yV4]
   have r0:=F3.out.st.cl.1.cell 0
   have cR:=Lib.hid (HRv.out σ Im w3 s b1 F3.out.st (HX.out b1 rfl))
   go_wp2_with fail
   refine cR.out.mono ?_
   rintro e w4 ⟨σ1,Im1,e1,rfl,hRes,hS4,hQ4,hG4,hO4⟩
   clear cR r0
   have hze:∃ zk zt zm za zb zAs zcs zsubs zAd zcd zdecls zAt zct ztail zpos,e1=.mk zk zt zm za zb zAs zcs zsubs zAd zcd zdecls zAt zct ztail zpos:=by cases e1;exact⟨_,_,_,_,_,_,_,_,_,_,_,_,_,_,_,rfl⟩
   obtain⟨zk,zt,zm,za,zb,zAs,zcs,zsubs,zAd,zcd,zdecls,zAt,zct,ztail,zpos,rfl⟩:=hze
   simp only[encE]
   obtain⟨o0,ho0,hob0⟩:=HX.out b1 rfl
   obtain⟨o1,ho1,hob1⟩:=hG4.ob o0 ho0
   have hob:o1.blk=b1:=hob1.trans hob0
   have hB1:=hS4.rs.ob.at_ o1 ho1
   rw[hob] at hB1
   have F4:=Lib.hid (F3.out.step hS4 hQ4 hG4)
   have R4:=Lib.hid (hQ4.kp.blk R3.out N3.out.1.2.1)
   have Z4:=Lib.hid (hQ4.kp.blk Z3.out M3.out.2.1)
   have M4:=Lib.hid (hQ4.own M3.out)
   have N4:=Lib.hid (show Mine (zn R (cloR R.r br bd) σ1 Im1) w4 w2.heap.size∧w.heap.size≤w2.heap.size from⟨hQ4.own N3.out.1,N3.out.2⟩)
   have HRes:=Lib.hid (show _∧_∧_ from⟨hRes,ho1,hob⟩)
   have HO4:=Lib.hid hO4
   have HB4:=Lib.hid hB1
   clear hRes hS4 hQ4 hG4 hO4 ho0 hob0 ho1 hob1 hob hB1
   have hbw:=(Below.refl w4.heap.size w4).alloc (Nat.le_refl _) (.cells #[.int .i64 zk,.string ⟨zt.toArray⟩,.int .i64 zm,.string ⟨za.toArray⟩,.string ⟨zb.toArray⟩,.slice zAs zsubs.length zcs,.slice zAd zdecls.length zcd,.slice zAt ztail.length zct,.int .i64 zpos] 67)
   have F5:=Lib.hid (F4.out.below hbw)
   have R5:=Lib.hid (R4.out.keep hbw)
   have Z5:=Lib.hid (Z4.out.keep hbw)
   have M5:=Lib.hid (M4.out.up hbw.size)
   have N5:=Lib.hid (N4.out.1.up hbw.size)
   have B5:=Lib.hid (HB4.out.keep hbw)
   have X5:=Lib.hid (Blk.new w4 67 #[.int .i64 zk,.string ⟨zt.toArray⟩,.int .i64 zm,.string ⟨za.toArray⟩,.string ⟨zb.toArray⟩,.slice zAs zsubs.length zcs,.slice zAd zdecls.length zcd,.slice zAt ztail.length zct,.int .i64 zpos])
   have O5:=Lib.hid ((zZ5 (N:=fun _=>False) (Kp.ofBelow hbw _) (fun _ _ h=>h) (fun _ h=>h)).1 _ HO4.out)
   clear hbw
   go_upto_region 5 with fail
   generalize w4.alloc (.cells #[.int .i64 zk,.string ⟨zt.toArray⟩,.int .i64 zm,.string ⟨za.toArray⟩,.string ⟨zb.toArray⟩,.slice zAs zsubs.length zcs,.slice zAd zdecls.length zcd,.slice zAt ztail.length zct,.int .i64 zpos] 67)=w5 at F5 R5 Z5 M5 N5 B5 X5 O5 ⊢
   clear F4 R4 Z4 M4 HB4 HO4
   have d15:=obH B5.out
   by_cases h16:16≤o1.hgt
   ·have hcl:=F5.out.st.cl
    have x0:=hcl.2.cell 0
    have xf:=hcl.2.free 0
    have hk:Kp (· = bd) w5 (w5.setCell ⟨bd,0,none⟩ (.bool true)):=(Kp.refl (· = bd) w5).setCell (p:=⟨bd,0,none⟩) rfl _
    obtain⟨T6,Q6,G6⟩:=F5.out.st.clo (q:=0) (x':=true) (N:=(· = bd)) hk (fun b hb=>.inr hb) ⟨hk.blk hcl.1 (zS7 hcl.1 hcl.2 (by decide)),by have:=hcl.2.set_ 0 (.bool true);simpa using this⟩ (fun b hb=>.inl hb) (Nat.le_refl _)
    have F6:=Lib.hid (F5.out.step T6 Q6 G6)
    have M6:=Lib.hid (Q6.own M5.out)
    have R6:=Lib.hid (Q6.kp.blk R5.out N5.out.2.1)
    have Z6:=Lib.hid (Q6.kp.blk Z5.out M5.out.2.1)
    have H16:=Lib.hid h16
    clear T6 Q6 G6 hk hcl
    go_upto_region 7 with fail
    generalize w5.setCell ⟨bd,0,none⟩ (.bool true)=w6 at F6 M6 R6 Z6 ⊢
    clear x0 xf d15
    obtain⟨e0,e1,e2,e3,e4,e5,e6,e7,e8⟩:=zZ6 R6.out
    obtain⟨y0,y1,y2,y3,y4,y5,y6,y7,y8⟩:=zZ6 Z6.out
    obtain⟨zf0,zf1,zf2,zf3,zf4,zf5,zf6,zf7,zf8⟩:=zK7 Z6.out
    go_wp2
    clear e0 e1 e2 e3 e4 e5 e6 e7 e8 y0 y1 y2 y3 y4 y5 y6 y7 y8 zf0 zf1 zf2 zf3 zf4 zf5 zf6 zf7 zf8
    obtain⟨F8,hB8,hK8⟩:=F6.out.store9 (by omega) M6.out Z6.out (.int .i64 10) (.string ⟨t.toArray⟩) (.int .i64 dp) (.string ⟨(zP6 q).toArray⟩) (.string ⟨#[]⟩) (.slice none 0 0) (.slice none 0 0) (.slice none 0 0) (.int .i64 pos)
    have HR:=Lib.hid (show RetE R (cloR R.r br bd) n s σ Im w (fun σ' e'=>RsC R U σ (.mk k t m a b As cs subs Ad cd decls At ct tail pos) ((q:Int),dp,some b1) file σ' e') (.returned (.agg #[.int .i64 10,.string ⟨t.toArray⟩,.int .i64 dp,.string ⟨(zP6 q).toArray⟩,.string ⟨#[]⟩,.slice none 0 0,.slice none 0 0,.slice none 0 0,.int .i64 pos])) _ from⟨_,Im1,refA t ((q:Int),dp,some b1) pos none 0 [],rfl,⟨σ1,.mk zk zt zm za zb zAs zcs zsubs zAd zcd zdecls zAt zct ztail zpos,o1,HRes.out.1,HRes.out.2.1,HRes.out.2.2,.inl ⟨H16.out,rfl,rfl⟩⟩,F8.st,F8.sp,F8.gr,xW5 HTn.out⟩)
    obtain⟨z0,z1,z2,z3,z4,z5,z6,z7,z8⟩:=zZ6 hB8
    refine bodyPost_ret (v:=.agg #[.int .i64 10,.string ⟨t.toArray⟩,.int .i64 dp,.string ⟨(zP6 q).toArray⟩,.string ⟨#[]⟩,.slice none 0 0,.slice none 0 0,.slice none 0 0,.int .i64 pos]) ?_ rfl HR.out
    simp[results,Tryz.results59,go_sem,z0,z1,z2,z3,z4,z5,z6,z7,z8]
   ·have H16:=Lib.hid (show o1.hgt < 16 from by omega)
    have h16':o1.hgt < 16:=by omega
    have hbw:=(Below.refl w5.heap.size w5).alloc (Nat.le_refl _) (.cells #[.int .i64 zk,.string ⟨zt.toArray⟩,.int .i64 zm,.string ⟨za.toArray⟩,.string ⟨zb.toArray⟩,.slice zAs zsubs.length zcs,.slice zAd zdecls.length zcd,.slice zAt ztail.length zct,.int .i64 zpos] 67)
    have F6:=Lib.hid (F5.out.below hbw)
    have R6:=Lib.hid (R5.out.keep hbw)
    have Z6:=Lib.hid (Z5.out.keep hbw)
    have M6:=Lib.hid (M5.out.up hbw.size)
    have N6:=Lib.hid (show _∧w.heap.size≤w2.heap.size from⟨N5.out.up hbw.size,N4.out.2⟩)
    have X6:=Lib.hid (Blk.new w5 67 #[.int .i64 zk,.string ⟨zt.toArray⟩,.int .i64 zm,.string ⟨za.toArray⟩,.string ⟨zb.toArray⟩,.slice zAs zsubs.length zcs,.slice zAd zdecls.length zcd,.slice zAt ztail.length zct,.int .i64 zpos])
    have O6:=Lib.hid ((zZ5 (N:=fun _=>False) (Kp.ofBelow hbw _) (fun _ _ h=>h) (fun _ h=>h)).1 _ O5.out)
    have NX:=Lib.hid (show Mine (zn R (cloR R.r br bd) σ1 Im1) (w5.alloc (.cells #[.int .i64 zk,.string ⟨zt.toArray⟩,.int .i64 zm,.string ⟨za.toArray⟩,.string ⟨zb.toArray⟩,.slice zAs zsubs.length zcs,.slice zAd zdecls.length zcd,.slice zAt ztail.length zct,.int .i64 zpos] 67)) w5.heap.size∧w.heap.size≤w5.heap.size from F5.out.new_ (Nat.le_refl _) (by simp))
    have HLt:=Lib.hid (show w2.heap.size < w5.heap.size∧w.heap.size+2 < w5.heap.size∧w2.heap.size≠w.heap.size+2 from⟨R5.out.lt,Z5.out.lt,HNe.out⟩)
    clear hbw
    obtain⟨x0,x1,x2,x3,x4,x5,x6,x7,x8⟩:=zZ6 X5.out
    have e5:=(zZ6 R6.out).2.2.2.2.2.1
    have ef5:=R6.out.free 5
    go_upto_region 9 with fail
    clear x0 x1 x2 x3 x4 x5 x6 x7 x8 e5 ef5 d15
    generalize w5.alloc (.cells #[.int .i64 zk,.string ⟨zt.toArray⟩,.int .i64 zm,.string ⟨za.toArray⟩,.string ⟨zb.toArray⟩,.slice zAs zsubs.length zcs,.slice zAd zdecls.length zcd,.slice zAt ztail.length zct,.int .i64 zpos] 67)=w6 at F6 R6 Z6 M6 N6 X6 O6 NX ⊢
    clear F5 R5 Z5 M5 N5 B5 X5 O5
    have R7:=Lib.hid (show Blk (w6.setCell ⟨w2.heap.size,5,none⟩ (.slice (some ⟨w5.heap.size,0,none⟩) 1 1)) w2.heap.size 67 #[.int .i64 10,.string ⟨t.toArray⟩,.int .i64 dp,.string ⟨(zP6 q).toArray⟩,.string ⟨#[]⟩,.slice (some ⟨w5.heap.size,0,none⟩) 1 1,.slice none 0 0,.slice none 0 0,.int .i64 pos] from by simpa using R6.out.set_ 5 (.slice (some ⟨w5.heap.size,0,none⟩) 1 1))
    have F7:=Lib.hid (F6.out.cell N6.out.2 N6.out.1 5 (.slice (some ⟨w5.heap.size,0,none⟩) 1 1))
    have Z7:=Lib.hid (Z6.out.far (p:=⟨w2.heap.size,5,none⟩) (fun e=>HLt.out.2.2 e.symm) (.slice (some ⟨w5.heap.size,0,none⟩) 1 1))
    have X7:=Lib.hid (X6.out.far (p:=⟨w2.heap.size,5,none⟩) (fun e=>by have h:w5.heap.size=w2.heap.size:=e;have:=HLt.out.1;omega) (.slice (some ⟨w5.heap.size,0,none⟩) 1 1))
    have hk7:Kp (· = w2.heap.size) w6 (w6.setCell ⟨w2.heap.size,5,none⟩ (.slice (some ⟨w5.heap.size,0,none⟩) 1 1)):=(Kp.refl (· = w2.heap.size) w6).setCell (p:=⟨w2.heap.size,5,none⟩) rfl _
    have M7:=Lib.hid (M6.out.up hk7.size)
    have NX7:=Lib.hid (show Mine (zn R (cloR R.r br bd) σ1 Im1) _ w5.heap.size∧w.heap.size≤w5.heap.size from⟨NX.out.1.up hk7.size,NX.out.2⟩)
    have O7:=Lib.hid ((zZ5 hk7 (fun b hb e=>by subst e;exact N6.out.1.2.2 hb) (fun _ h=>h)).1 _ O6.out)
    clear hk7
    generalize w6.setCell ⟨w2.heap.size,5,none⟩ (.slice (some ⟨w5.heap.size,0,none⟩) 1 1)=w7 at R7 F7 Z7 X7 M7 NX7 O7 ⊢
    clear F6 R6 Z6 M6 N6 X6 O6 NX
    obtain⟨e0,e1,e2,e3,e4,e5,e6,e7,e8⟩:=zZ6 R7.out
    obtain⟨y0,y1,y2,y3,y4,y5,y6,y7,y8⟩:=zZ6 Z7.out
    obtain⟨zf0,zf1,zf2,zf3,zf4,zf5,zf6,zf7,zf8⟩:=zK7 Z7.out
    go_wp2
    clear e0 e1 e2 e3 e4 e5 e6 e7 e8 y0 y1 y2 y3 y4 y5 y6 y7 y8 zf0 zf1 zf2 zf3 zf4 zf5 zf6 zf7 zf8
    obtain⟨F8,hB8,hK8⟩:=F7.out.store9 (by omega) M7.out Z7.out (.int .i64 10) (.string ⟨t.toArray⟩) (.int .i64 dp) (.string ⟨(zP6 q).toArray⟩) (.string ⟨#[]⟩) (.slice (some ⟨w5.heap.size,0,none⟩) 1 1) (.slice none 0 0) (.slice none 0 0) (.int .i64 pos)
    have hX8:=hK8.blk X7.out (fun e=>by have h:w5.heap.size=w.heap.size+2:=e;have:=HLt.out.2.1;omega)
    have hO8:=(zZ5 hK8 (fun b hb e=>by subst e;exact M7.out.2.2 hb) (fun b hb=>(.inl hb:Im1 b∨b=w5.heap.size))).1 _ O7.out
    have F9:=F8.freeze (F:=(· = w5.heap.size)) (fun b hb=>by subst hb;exact⟨NX7.out.1.up hK8.size,NX7.out.2⟩)
    have hSl:SlI (fun b=>Im1 b∨b=w5.heap.size) _ 9 encE (some ⟨w5.heap.size,0,none⟩) [.mk zk zt zm za zb zAs zcs zsubs zAd zcd zdecls zAt zct ztail zpos]:=⟨hX8.sl zP0 _ (by simp[encE]),by simp,.inr fun a ha=>by injection ha with ha;subst ha;exact .inr rfl⟩
    have hOk9:OkI (fun b=>Im1 b∨b=w5.heap.size) _ (refA t ((q:Int),dp,some b1) pos (some ⟨w5.heap.size,0,none⟩) 1 [.mk zk zt zm za zb zAs zcs zsubs zAd zcd zdecls zAt zct ztail zpos]):=okI_refS HTn.out hSl hO8
    have HR:=Lib.hid (show RetE R (cloR R.r br bd) n s σ Im w (fun σ' e'=>RsC R U σ (.mk k t m a b As cs subs Ad cd decls At ct tail pos) ((q:Int),dp,some b1) file σ' e') (.returned (.agg #[.int .i64 10,.string ⟨t.toArray⟩,.int .i64 dp,.string ⟨(zP6 q).toArray⟩,.string ⟨#[]⟩,.slice (some ⟨w5.heap.size,0,none⟩) 1 1,.slice none 0 0,.slice none 0 0,.int .i64 pos])) _ from⟨_,_,refA t ((q:Int),dp,some b1) pos (some ⟨w5.heap.size,0,none⟩) 1 [.mk zk zt zm za zb zAs zcs zsubs zAd zcd zdecls zAt zct ztail zpos],rfl,⟨σ1,.mk zk zt zm za zb zAs zcs zsubs zAd zcd zdecls zAt zct ztail zpos,o1,HRes.out.1,HRes.out.2.1,HRes.out.2.2,.inr ⟨H16.out,rfl,_,rfl⟩⟩,F9.st,F9.sp,F9.gr,hOk9⟩)
    obtain⟨z0,z1,z2,z3,z4,z5,z6,z7,z8⟩:=zZ6 hB8
    refine bodyPost_ret (v:=.agg #[.int .i64 10,.string ⟨t.toArray⟩,.int .i64 dp,.string ⟨(zP6 q).toArray⟩,.string ⟨#[]⟩,.slice (some ⟨w5.heap.size,0,none⟩) 1 1,.slice none 0 0,.slice none 0 0,.int .i64 pos]) ?_ rfl HR.out
    simp[results,Tryz.results59,go_sem,z0,z1,z2,z3,z4,z5,z6,z7,z8]
structure Lt where
 name:Tx
 subs:List E
 file:Nat
structure Scp where
 fields:List Tx
 lets:List Lt
def zG7:List Lt→Tx→Option Lt
 | [],_=>none
 | p ::r,s=>match zG7 r s with | some x=>some x | none=>if p.name=s then some p else none
def yZ0 (s:Tx):List Scp→Int × Int × Option (Lt × List Scp)
 | []=>(0,0,none)
 | x ::r=>match zG7 x.lets s with | some b=>(2,(r.length:Int),some (b,x ::r)) | none=>if s∈x.fields then(1,(r.length:Int),none) else yZ0 s r
def resR (im:List (List Tx))(env:List Scp)(lp:List Tx)(file:Nat)(s:Tx):Int × Int × Option (Lt × List Scp):=
 if s∈lp then(3,0,none) else if (yZ0 s env).1=0 then(if s∈im.getD file [] then(4,0,none) else(0,0,none)) else yZ0 s env
def yS3 (l:List D)(file:Nat):List Lt:=(l.filter fun d=>decide (d.k=4)).map fun d=>⟨d.l,d.subs,file⟩
def xW6 (l:List D)(file:Nat):Scp:=⟨zL3 l,yS3 l file⟩
def refT (t:Tx)(kd dp:Int)(subs:List E)(pos:Int):E:=.mk 10 t dp (zP6 kd) [] subs [] [] pos
def yK4 (t:Tx)(kd dp pos:Int)(r:E × Bool):E × Bool:=if 16≤htE 17 r.1 then(refT t kd dp [] pos,true) else(refT t kd dp [r.1] pos,r.2)
def both {α β γ:Type}(x:Option (α × Bool))(y:Option (β × Bool))(f:α→β→γ):Option (γ × Bool):=match x,y with | some p,some q=>some (f p.1 q.1,p.2||q.2) | _,_=>none
theorem zX0 {α β γ:Type}{x:Option (α × Bool)}{y:Option (β × Bool)}{f:α→β→γ}{r:γ × Bool}:both x y f=some r↔∃ p q,x=some p∧y=some q∧r=(f p.1 q.1,p.2||q.2):=by
 unfold both
 constructor
 ·intro h
  split at h
  ·rename_i p q
   injection h with h
   exact⟨p,q,rfl,rfl,h.symm⟩
  ·cases h
 ·rintro⟨p,q,rfl,rfl,rfl⟩
  rfl
theorem both_ne {α β γ:Type}{x:Option (α × Bool)}{y:Option (β × Bool)}{f:α→β→γ}(h:both x y f≠none):x≠none∧y≠none:=by
 obtain⟨r,hr⟩:=Option.ne_none_iff_exists'.1 h
 obtain⟨p,q,rfl,rfl,_⟩:=zX0.1 hr
 exact⟨by simp,by simp⟩
mutual
def rzE (L:List E→Nat→List Scp→Option (E × Bool))(im:List (List Tx)):E→List Scp→List Tx→Nat→Option (E × Bool)
 | .mk k t m a b subs decls tail pos,env,lp,file=>
   if k=10 then
    match (resR im env lp file t).2.2 with
    | none=>some (refT t (resR im env lp file t).1 (resR im env lp file t).2.1 [] pos,false)
    | some x=>(L x.1.subs x.1.file x.2).map (yK4 t (resR im env lp file t).1 (resR im env lp file t).2.1 pos)
   else both (rzEs L im (if k=15 then[a,b] else[]) 0 subs env lp file) (rzDs L im decls (if k=13 then xW6 decls file ::env else env) (if k=13 then[] else lp) file) fun s d=>.mk k t m a b s d tail pos
def rzEs (L:List E→Nat→List Scp→Option (E × Bool))(im:List (List Tx))(nm:List Tx):Nat→List E→List Scp→List Tx→Nat→Option (List E × Bool)
 | _,[],_,_,_=>some ([],false)
 | i,e ::r,env,lp,file=>both (rzE L im e env (lp++if i=0 then[] else nm) file) (rzEs L im nm (i+1) r env lp file) List.cons
def rzDs (L:List E→Nat→List Scp→Option (E × Bool))(im:List (List Tx)):List D→List Scp→List Tx→Nat→Option (List D × Bool)
 | [],_,_,_=>some ([],false)
 | d ::r,env,lp,file=>both (rzD L im d env lp file) (rzDs L im r env lp file) List.cons
def rzD (L:List E→Nat→List Scp→Option (E × Bool))(im:List (List Tx)):D→List Scp→List Tx→Nat→Option (D × Bool)
 | .mk k p l a b subs body tail lead trail pos,env,lp,file=>both (rzEs L im [] 0 subs env lp file) (rzDs L im body env (lp++if k=6 then[a,b] else[]) file) fun s d=>.mk k p l a b s d tail lead trail pos
end
def rzL (im:List (List Tx)):Nat→List E→Nat→List Scp→Option (E × Bool)
 | 0,_,_,_=>none
 | n+1,[e],file,env=>rzE (rzL im n) im e env [] file
 | _+1,_,_,_=>none
def rzFs (im:List (List Tx))(n:Nat)(env:List Scp):Nat→List (List D)→Option (List (List D) × Bool)
 | _,[]=>some ([],false)
 | i,d ::r=>both (rzDs (rzL im n) im d env [] i) (rzFs im n env (i+1) r) List.cons
def LeL (L L':List E→Nat→List Scp→Option (E × Bool)):Prop:=∀ s f env r,L s f env=some r→L' s f env=some r
theorem zM6 {α β γ:Type}{x x':Option (α × Bool)}{y y':Option (β × Bool)}{f:α→β→γ}{r:γ × Bool}(hx:∀ p,x=some p→x'=some p)(hy:∀ p,y=some p→y'=some p)(h:both x y f=some r):both x' y' f=some r:=by
 obtain⟨p,q,h1,h2,h3⟩:=zX0.1 h
 exact zX0.2 ⟨p,q,hx p h1,hy q h2,h3⟩
theorem zG8 {L L':List E→Nat→List Scp→Option (E × Bool)}(im:List (List Tx))(hL:LeL L L') :
  (∀ e,∀ env lp file r,rzE L im e env lp file=some r→rzE L' im e env lp file=some r)∧(∀ d,∀ env lp file r,rzD L im d env lp file=some r→rzD L' im d env lp file=some r)∧
  (∀ l,∀ nm i env lp file r,rzEs L im nm i l env lp file=some r→rzEs L' im nm i l env lp file=some r)∧∀ l,∀ env lp file r,rzDs L im l env lp file=some r→rzDs L' im l env lp file=some r:=
 zM9 (fun k t n a b subs decls tail pos h1 h2 env lp file r h=>by
   rw[rzE] at h ⊢
   split
   ·rename_i hk
    rw[if_pos hk] at h
    cases hx:(resR im env lp file t).2.2 with
    | none=>
      rw[hx] at h
      exact h
    | some x=>
      rw[hx] at h
      simp only at h ⊢
      rw[Option.map_eq_some_iff] at h ⊢
      obtain⟨q,h3,h4⟩:=h
      exact⟨q,hL _ _ _ _ h3,h4⟩
   ·rename_i hk
    rw[if_neg hk] at h
    exact zM6 (h1 _ _ _ _ _) (h2 _ _ _) h)
  (fun k p l a b subs body tail lead trail pos h1 h2 env lp file r h=>by
   rw[rzD] at h ⊢
   exact zM6 (h1 _ _ _ _ _) (h2 _ _ _) h)
  (fun nm i env lp file r h=>by rw[rzEs] at h ⊢;exact h)
  (fun e l h1 h2 nm i env lp file r h=>by
   rw[rzEs] at h ⊢
   exact zM6 (h1 _ _ _) (h2 _ _ _ _ _) h)
  (fun env lp file r h=>by rw[rzDs] at h ⊢;exact h)
  (fun d l h1 h2 env lp file r h=>by
   rw[rzDs] at h ⊢
   exact zM6 (h1 _ _ _) (h2 _ _ _) h)
theorem yI9 (im:List (List Tx)):∀ n,LeL (rzL im n) (rzL im (n+1))
 | 0,s,f,env,r,h=>by rw[rzL] at h;cases h
 | n+1,s,f,env,r,h=>by
   match s,h with
   | [],h=>cases h
   | [e],h=>exact(zG8 im (yI9 im n)).1 _ _ _ _ _ h
   | _ ::_ ::_,h=>cases h
theorem zB6 (im:List (List Tx)){n:Nat}:∀ {m:Nat},n≤m→LeL (rzL im n) (rzL im m)
 | 0,h=>by
   obtain rfl:n=0:=by omega
   exact fun _ _ _ _ h=>h
 | m+1,h=>by
   rcases Nat.lt_or_ge m n with h1 | h1
   ·obtain rfl:n=m+1:=by omega
    exact fun _ _ _ _ h=>h
   ·exact fun s f env r h2=>yI9 im m _ _ _ _ (zB6 im h1 _ _ _ _ h2)
theorem zB7 (im:List (List Tx)){n m:Nat}(h:n≤m)(env:List Scp):∀ (l:List (List D))(i:Nat) r,rzFs im n env i l=some r→rzFs im m env i l=some r
 | [],_,_,h2=>h2
 | d ::l,i,r,h2=>by
   rw[rzFs] at h2 ⊢
   exact zM6 ((zG8 im (zB6 im h)).2.2.2 _ _ _ _) (zB7 im h env l (i+1)) h2
def Mono {α:Type}(rz:Nat→Option α):Prop:=∀ n m r,n≤m→rz n=some r→rz m=some r
theorem Mono.ne {α:Type}{rz:Nat→Option α}(h:Mono rz){n m:Nat}(hm:n≤m)(hn:rz m=none):rz n=none:=by
 cases hr:rz n with
 | none=>rfl
 | some r=>rw[h n m r hm hr] at hn;cases hn
theorem least {α:Type}{rz:Nat→Option α}:∀ {n:Nat},rz n≠none→∃ m,m≤n∧rz m≠none∧∀ q,q < m→rz q=none
 | n,h=>by
   induction n using Nat.strongRecOn with
   | _ n ih=>
     by_cases hq:∃ q,q < n∧rz q≠none
     ·obtain⟨q,h1,h2⟩:=hq
      obtain⟨m,h3,h4,h5⟩:=ih q h1 h2
      exact⟨m,by omega,h4,h5⟩
     ·refine⟨n,Nat.le_refl _,h,fun q hq2=>?_⟩
      cases hr:rz q with
      | none=>rfl
      | some r=>exact absurd ⟨q,hq2,by rw[hr];simp⟩ hq
theorem find_ob {obs:List Ob}(hn:(obs.map (·.blk)).Nodup){o:Ob}(ho:o∈obs):obs.find? (fun x=>decide (x.blk=o.blk))=some o:=by
 cases hf:obs.find? (fun x=>decide (x.blk=o.blk)) with
 | none=>
   rw[List.find?_eq_none] at hf
   exact absurd (by simp:decide (o.blk=o.blk)=true) (hf o ho)
 | some x=>
   have h1:=List.find?_some hf
   rw[zQ7 hn (List.mem_of_find?_eq_some hf) ho (of_decide_eq_true h1)]
def ltAt (objs:List Ob)(p:Tx × Nat):Lt:=match objs.find? (fun o=>decide (o.blk=p.2)) with | some o=>⟨p.1,(zU6 o.d).map plE,o.file⟩ | none=>⟨p.1,[],0⟩
def pvS (objs:List Ob)(x:ScA):Scp:=⟨x.fields,x.lets.map (ltAt objs)⟩
def pv (objs:List Ob)(env:List ScA):List Scp:=env.map (pvS objs)
def EnvL (objs:List Ob)(en:Nat→List ScA):List ScA→Prop
 | []=>True
 | x ::r=>(∀ p∈x.lets,∃ o∈objs,o.blk=p.2∧en o.sc=x ::r)∧EnvL objs en r
theorem zB8 {objs:List Ob}(hn:(objs.map (·.blk)).Nodup){o:Ob}(ho:o∈objs){p:Tx × Nat}(h:o.blk=p.2):ltAt objs p=⟨p.1,(zU6 o.d).map plE,o.file⟩:=by
 unfold ltAt
 rw[←h,find_ob hn ho]
structure OkS {X:Type}(σ:GS X):Prop where
 nd:(σ.ρ.objs.map (·.blk)).Nodup
 en:∀ o∈σ.ρ.objs,EnvL σ.ρ.objs σ.en (σ.en o.sc)
structure Grb {X:Type}(σ σ':GS X):Prop where
 ob:∀ o∈σ.ρ.objs,∃ o'∈σ'.ρ.objs,o'.blk=o.blk∧o'.d=o.d∧o'.sc=o.sc∧o'.file=o.file
 en:∀ o∈σ.ρ.objs,σ'.en o.sc=σ.en o.sc
structure Grw {X:Type}(σ σ':GS X):Prop where
 b:Grb σ σ'
 ac:∀ o∈σ.ρ.objs,∀ o'∈σ'.ρ.objs,o'.blk=o.blk→o'.act=o.act
 nw:∀ o'∈σ'.ρ.objs,o'.act=true→∃ o∈σ.ρ.objs,o.blk=o'.blk
section
variable {X:Type}{σ σ1 σ2:GS X}
theorem Grb.refl (σ:GS X):Grb σ σ:=⟨fun o ho=>⟨o,ho,rfl,rfl,rfl,rfl⟩,fun _ _=>rfl⟩
theorem Grb.trans (h:Grb σ σ1)(k:Grb σ1 σ2):Grb σ σ2:=
 ⟨fun o ho=>by
  obtain⟨o1,h1,e1,e2,e3,e4⟩:=h.ob o ho
  obtain⟨o2,h2,f1,f2,f3,f4⟩:=k.ob o1 h1
  exact⟨o2,h2,f1.trans e1,f2.trans e2,f3.trans e3,f4.trans e4⟩,fun o ho=>by
  obtain⟨o1,h1,e1,e2,e3,e4⟩:=h.ob o ho
  have:=k.en o1 h1
  rw[e3] at this
  exact this.trans (h.en o ho)⟩
theorem Grw.refl (hn:(σ.ρ.objs.map (·.blk)).Nodup):Grw σ σ:=⟨Grb.refl σ,fun _ ho _ ho' e=>by rw[zQ7 hn ho' ho e],fun o ho _=>⟨o,ho,rfl⟩⟩
theorem Grw.trans (h:Grw σ σ1)(k:Grw σ1 σ2):Grw σ σ2:=
 ⟨h.b.trans k.b,fun o ho o2 ho2 e=>by
  obtain⟨o1,h1,e1,_⟩:=h.b.ob o ho
  exact(k.ac o1 h1 o2 ho2 (e.trans e1.symm)).trans (h.ac o ho o1 h1 e1),fun o2 ho2 ha=>by
  obtain⟨o1,h1,e1⟩:=k.nw o2 ho2 ha
  have ha1:o1.act=true:=(k.ac o1 h1 o2 ho2 e1.symm).symm.trans ha
  obtain⟨o,h0,e0⟩:=h.nw o1 h1 ha1
  exact⟨o,h0,e0.trans e1⟩⟩
theorem Grb.envL (h:Grb σ σ1):∀ {env:List ScA},EnvL σ.ρ.objs σ.en env→EnvL σ1.ρ.objs σ1.en env
 | [],_=>trivial
 | x ::r,hE=>⟨fun p hp=>by
     obtain⟨o,ho,e1,e2⟩:=hE.1 p hp
     obtain⟨o1,h1,f1,f2,f3,f4⟩:=h.ob o ho
     exact⟨o1,h1,f1.trans e1,by rw[f3,h.en o ho,e2]⟩,h.envL hE.2⟩
theorem Grb.pv (h:Grb σ σ1)(hn:(σ.ρ.objs.map (·.blk)).Nodup)(hn1:(σ1.ρ.objs.map (·.blk)).Nodup):∀ {env:List ScA},EnvL σ.ρ.objs σ.en env→pv σ1.ρ.objs env=pv σ.ρ.objs env
 | [],_=>rfl
 | x ::r,hE=>by
   have ih:=h.pv hn hn1 hE.2
   unfold Go.Proofs.YtdgehhgjgifikaaGreatDoor.pv at *
   rw[List.map_cons,List.map_cons,ih]
   congr 1
   unfold pvS
   congr 1
   refine List.map_congr_left fun p hp=>?_
   obtain⟨o,ho,e1,_⟩:=hE.1 p hp
   obtain⟨o1,h1,f1,f2,_,f4⟩:=h.ob o ho
   rw[zB8 hn ho e1,zB8 hn1 h1 (f1.trans e1),f2,f4]
theorem Grb.map {σ':GS X}{g:Ob→Ob}(hob:σ'.ρ.objs=σ.ρ.objs.map g)(hg:∀ o,(g o).blk=o.blk∧(g o).d=o.d∧(g o).sc=o.sc∧(g o).file=o.file)(hen:σ'.en=σ.en):Grb σ σ':=
 ⟨fun o ho=>⟨g o,by rw[hob];exact List.mem_map.2 ⟨o,ho,rfl⟩,hg o⟩,fun o _=>by rw[hen]⟩
theorem OkS.map (h:OkS σ){σ':GS X}{g:Ob→Ob}(hob:σ'.ρ.objs=σ.ρ.objs.map g)(hg:∀ o,(g o).blk=o.blk∧(g o).d=o.d∧(g o).sc=o.sc∧(g o).file=o.file)(hen:σ'.en=σ.en):OkS σ':=by
 refine⟨?_,fun o ho=>?_⟩
 ·have e:(σ.ρ.objs.map g).map (·.blk)=σ.ρ.objs.map (·.blk):=by
   rw[List.map_map]
   exact List.map_congr_left fun x _=>(hg x).1
  rw[hob,e]
  exact h.nd
 ·rw[hob] at ho
  obtain⟨y,hy,rfl⟩:=List.mem_map.1 ho
  have:=(Grb.map hob hg hen).envL (h.en y hy)
  rw[(hg y).2.2.1]
  rw[hen] at this ⊢
  exact this
theorem Grw.map {σ':GS X}{g:Ob→Ob}(hn:(σ.ρ.objs.map (·.blk)).Nodup)(hob:σ'.ρ.objs=σ.ρ.objs.map g)(hg:∀ o,(g o).blk=o.blk∧(g o).d=o.d∧(g o).sc=o.sc∧(g o).file=o.file)(ha:∀ o∈σ.ρ.objs,(g o).act=o.act)(hen:σ'.en=σ.en):Grw σ σ':=by
 refine⟨Grb.map hob hg hen,fun o ho o' ho' e=>?_,fun o' ho' _=>?_⟩
 ·rw[hob] at ho'
  obtain⟨y,hy,rfl⟩:=List.mem_map.1 ho'
  rw[(hg y).1] at e
  rw[zQ7 hn ho hy e.symm]
  exact ha y hy
 ·rw[hob] at ho'
  obtain⟨y,hy,rfl⟩:=List.mem_map.1 ho'
  exact⟨y,hy,(hg y).1.symm⟩
theorem yC0 (b:Nat)(o:Ob):(zR2 b o).blk=o.blk∧(zR2 b o).d=o.d∧(zR2 b o).sc=o.sc∧(zR2 b o).file=o.file∧(zR2 b o).act=o.act∧(zR2 b o).done=o.done∧(zR2 b o).ex=o.ex∧(zR2 b o).hgt=o.hgt:=by
 unfold zR2
 split <;> exact⟨rfl,rfl,rfl,rfl,rfl,rfl,rfl,rfl⟩
theorem yH0 (file:Nat)(t:Tx)(x:Int × Int × Option Nat)(ρ:RS):∃ g:Ob→Ob,(zU5 file t x ρ).objs=ρ.objs.map g∧(∀ o,(g o).blk=o.blk∧(g o).d=o.d∧(g o).sc=o.sc∧(g o).file=o.file∧(g o).act=o.act∧(g o).done=o.done∧(g o).ex=o.ex∧(g o).hgt=o.hgt)∧(zU5 file t x ρ).cyc=ρ.cyc:=by
 unfold zU5
 split
 ·rename_i b _
  exact⟨zR2 b,rfl,yC0 b,rfl⟩
 ·split <;> exact⟨id,by simp,fun _=>⟨rfl,rfl,rfl,rfl,rfl,rfl,rfl,rfl⟩,rfl⟩
theorem zU8 {b:Nat}{f:Ob→Ob}(hf:∀ o,(f o).blk=o.blk∧(f o).d=o.d∧(f o).sc=o.sc∧(f o).file=o.file)(o:Ob):(atOb b f o).blk=o.blk∧(atOb b f o).d=o.d∧(atOb b f o).sc=o.sc∧(atOb b f o).file=o.file:=by
 unfold atOb
 split
 ·exact hf o
 ·exact⟨rfl,rfl,rfl,rfl⟩
theorem yH1 {objs:List Ob}(t:Tx):∀ l:List (Tx × Nat),(zV9 l t=none∧zG7 (l.map (ltAt objs)) t=none)∨∃ p∈l,zV9 l t=some p.2∧zG7 (l.map (ltAt objs)) t=some (ltAt objs p)
 | []=>.inl ⟨rfl,rfl⟩
 | p ::r=>by
   have hnm:(ltAt objs p).name=p.1:=by unfold ltAt;split <;> rfl
   rw[List.map_cons,zV9,zG7]
   rcases yH1 (objs:=objs) t r with ⟨h1,h2⟩ | ⟨q,hq,h1,h2⟩
   ·rw[h1,h2]
    simp only
    rw[hnm]
    by_cases hp:p.1=t
    ·rw[if_pos hp,if_pos hp]
     exact .inr ⟨p,by simp,rfl,rfl⟩
    ·rw[if_neg hp,if_neg hp]
     exact .inl ⟨rfl,rfl⟩
   ·rw[h1,h2]
    exact .inr ⟨q,by simp[hq],rfl,rfl⟩
theorem yH2 {objs:List Ob}{en:Nat→List ScA}(hn:(objs.map (·.blk)).Nodup)(t:Tx):∀ {env:List ScA},EnvL objs en env→
  ((zV6 t env).2.2=none∧yZ0 t (pv objs env)=((zV6 t env).1,(zV6 t env).2.1,none))∨
  ∃ o∈objs,(zV6 t env).2.2=some o.blk∧∃ nm,yZ0 t (pv objs env)=((zV6 t env).1,(zV6 t env).2.1,some (⟨nm,(zU6 o.d).map plE,o.file⟩,pv objs (en o.sc)))
 | [],_=>.inl ⟨rfl,rfl⟩
 | x ::r,hE=>by
   have ih:=yH2 hn t hE.2
   have e:pv objs (x ::r)=pvS objs x ::pv objs r:=rfl
   have hl:(pv objs r).length=r.length:=by unfold pv;rw[List.length_map]
   rw[e,zV6,yZ0,hl]
   rcases yH1 (objs:=objs) t x.lets with ⟨h1,h2⟩ | ⟨p,hp,h1,h2⟩
   ·have h2':zG7 (pvS objs x).lets t=none:=h2
    rw[h1,h2']
    simp only
    by_cases hf:t∈x.fields
    ·rw[if_pos hf,if_pos (show t∈(pvS objs x).fields from hf)]
     exact .inl ⟨rfl,rfl⟩
    ·rw[if_neg hf,if_neg (show ¬ t∈(pvS objs x).fields from hf)]
     exact ih
   ·have h2':zG7 (pvS objs x).lets t=some (ltAt objs p):=h2
    rw[h1,h2']
    simp only
    obtain⟨o,ho,e1,e2⟩:=hE.1 p hp
    refine .inr ⟨o,ho,by rw[e1],p.1,?_⟩
    rw[zB8 hn ho e1,e2,e]
theorem yX6 {t:Tx}:∀ {env:List ScA}{b:Nat},(zV6 t env).1=0→(zV6 t env).2.2=some b→False
 | [],b,_,h=>by cases h
 | x ::r,b,h0,h1=>by
   rw[zV6] at h0 h1
   split at h0
   ·cases h0
   ·rename_i hl
    rw[hl] at h1
    simp only at h1
    split at h0
    ·cases h0
    ·rename_i hf
     rw[if_neg hf] at h1
     exact yX6 h0 h1
theorem findA_pv {objs:List Ob}{en:Nat→List ScA}(hn:(objs.map (·.blk)).Nodup)(im:List (List Tx))(lp:List Tx)(file:Nat)(t:Tx){env:List ScA}(hE:EnvL objs en env) :
  ((zW6 im env lp file t).2.2=none∧resR im (pv objs env) lp file t=((zW6 im env lp file t).1,(zW6 im env lp file t).2.1,none))∨
  ∃ o∈objs,(zW6 im env lp file t).2.2=some o.blk∧∃ nm,resR im (pv objs env) lp file t=((zW6 im env lp file t).1,(zW6 im env lp file t).2.1,some (⟨nm,(zU6 o.d).map plE,o.file⟩,pv objs (en o.sc))):=by
 unfold zW6 resR
 by_cases hl:t∈lp
 ·rw[if_pos hl,if_pos hl]
  exact .inl ⟨rfl,rfl⟩
 ·rw[if_neg hl,if_neg hl]
  rcases yH2 hn t hE with ⟨h1,h2⟩ | ⟨o,ho,h1,nm,h2⟩
  ·rw[h2]
   by_cases h0:(zV6 t env).1=0
   ·rw[if_pos h0,if_pos h0]
    split <;> exact .inl ⟨rfl,rfl⟩
   ·rw[if_neg h0,if_neg h0]
    exact .inl ⟨h1,rfl⟩
  ·rw[h2]
   by_cases h0:(zV6 t env).1=0
   ·exfalso
    exact yX6 h0 h1
   ·rw[if_neg h0,if_neg h0]
    exact .inr ⟨o,ho,h1,nm,rfl⟩
end
end Go.Proofs.YtdgehhgjgifikaaGreatDoor
