/- What the claim needs of:KW. -/
import Derived.Test.YtdgehhgjgifikaaGreatDoorK32
namespace Go.Proofs.YtdgehhgjgifikaaGreatDoor
open Go.RowKit
theorem sl_strs4 (t a b d:Tx)(W:World):Sl (W.alloc (.cells #[.string ⟨t.toArray⟩,.string ⟨a.toArray⟩,.string ⟨b.toArray⟩,.string ⟨d.toArray⟩] 9)) (W.alloc (.cells #[.string ⟨t.toArray⟩,.string ⟨a.toArray⟩,.string ⟨b.toArray⟩,.string ⟨d.toArray⟩] 9)).heap.size 1 encS (some ⟨W.heap.size,0,none⟩) [t,a,b,d]:=by
 have h:=Blk.new W 9 #[.string ⟨t.toArray⟩,.string ⟨a.toArray⟩,.string ⟨b.toArray⟩,.string ⟨d.toArray⟩];refine .inr ⟨_,0,rfl,h.lt,fun i hi j v hv=>?_⟩;have hj:j=0:=by
  have:=(List.getElem?_eq_some_iff.1 hv).1;simp only[encS,List.length_cons,List.length_nil] at this;omega
 subst hj;rw[Nat.zero_add,Nat.add_zero,Nat.mul_one,h.cell];match i,hi with
 | 0,_=>exact hv
 | 1,_=>exact hv
 | 2,_=>exact hv
 | 3,_=>exact hv
 | n+4,hi=>simp only[List.length_cons,List.length_nil] at hi;omega
def bodyC:DA→List DA
 | .mk _ _ _ _ _ _ _ _ _ _ body _ _ _ _ _ _ _ _=>body
set_option maxRecDepth 100000 in
theorem zG9 {o:Oper}{P:Program}{Q:Exit→Act→World→Prop}{K:Act→World→Prop}{W:World}{fs:List Fact}{G:Act→Prop}{aa ab ac ad ae af ag ah ai aj ak al am an ao ap aq ar au av aw ax ay az aA aB aC aD aE aF aG aH aI aJ aK aL aM aN aO aP aQ aR aS aT aU aV aW aX aY aZ a0 a1 a2 a3 a4 a5 a6 a7 a8 a9 ba bb bc bd be bf bg bh bi bj bk bl bm bn bo bp bq br bs bt bu bv bw bx bz bA bB bC bD bE bF bG bH bI bJ bK bL bM bN bO bP bQ bR bS bT:Value}(hG:∀ A,o.wp P A W K Q→G A)(h:o.wp P (Act.mk #[aa,ab,ac,ad,ae,af,ag,ah,ai,aj,ak,al,am,an,ao,ap,aq,ar,bl,bm,bn,bo,bp,bq,br,bs,bt,bu,bv,bw,bx,bz,bA,bB,bC,bD,bE,bF,bG,bH,bI,bJ,bK,bL,bM,bN,bO,bP,bQ,bR,bS,bT,a2,a3,a4,a5,a6,a7,a8,a9,ba,bb,bc,bd,be,bf,bg,bh,bi,bj,bk] []) W K Q):zY0 W G [] fs (Act.put (Act.put (Act.put (Act.put (Act.put (Act.put (Act.put (Act.put (Act.put (Act.put (Act.put (Act.put (Act.put (Act.put (Act.put (Act.put (Act.put (Act.put (Act.put (Act.put (Act.put (Act.put (Act.put (Act.put (Act.put (Act.put (Act.put (Act.put (Act.put (Act.put (Act.put (Act.put (Act.put (Act.put (Act.mk #[aa,ab,ac,ad,ae,af,ag,ah,ai,aj,ak,al,am,an,ao,ap,aq,ar,au,av,aw,ax,ay,az,aA,aB,aC,aD,aE,aF,aG,aH,aI,aJ,aK,aL,aM,aN,aO,aP,aQ,aR,aS,aT,aU,aV,aW,aX,aY,aZ,a0,a1,a2,a3,a4,a5,a6,a7,a8,a9,ba,bb,bc,bd,be,bf,bg,bh,bi,bj,bk] []) (some 18) bl) (some 19) bm) (some 20) bn) (some 21) bo) (some 22) bp) (some 23) bq) (some 24) br) (some 25) bs) (some 26) bt) (some 27) bu) (some 28) bv) (some 29) bw) (some 30) bx) (some 31) bz) (some 32) bA) (some 33) bB) (some 34) bC) (some 35) bD) (some 36) bE) (some 37) bF) (some 38) bG) (some 39) bH) (some 40) bI) (some 41) bJ) (some 42) bK) (some 43) bL) (some 44) bM) (some 45) bN) (some 46) bO) (some 47) bP) (some 48) bQ) (some 49) bR) (some 50) bS) (some 51) bT):=
 zV2 qF hG h
set_option maxRecDepth 100000 in
set_option maxHeartbeats 8000000 in
theorem zL6 {l:List DA}(hD:∀ d∈l,(∀ x∈zU3 d,CoOk x)∧CdOk (bodyC d)):CdOk l:=by
 intro A c B left w hBB hl1 hSl hlB hIn;have HS:=qK hSl;have HIn:=qK hIn;have HT:=qK hD;have hsl:l.length≤1099511627776:=by omega
 have HBB:=qK hBB;clear hSl hIn hD hBB hlB;go_enter Tryz.func70,Tryz.ntmps70
 go_upto_region 2 with fail
 go_loopw [1,11] (fun lv iv wq=>∃ (i:Nat) (L:Int),i≤l.length∧iv=.int .i64 (i:Nat)∧lv=.int .i64 L∧Hid (zY6 ((l.take i).map plD) left=L)∧L≤150∧Hid (Below w.heap.size w wq)) (fun _ iv _=>l.length-(intOf iv).toNat)
 case atStart=>exact⟨0,left,Nat.zero_le _,rfl,rfl,qK (by rw[List.take_zero,List.map_nil,zY6]),hl1,qK qH⟩
 case round=>
  obtain⟨i,L,hi,rfl,rfl,HM,hL,HB⟩:=hrel;by_cases hlt:i < l.length
  ·have hlt':(i:Int) < (l.length:Int):=by omega
   obtain⟨bb,off,hA,hbW,hc⟩:=HS.out.at_ hlt;have HTk:=qK (show zY6 ((l.take (i+1)).map plD) left=if L < 0 then L else yY4 (plD l[i]) L from by
    rw[List.take_succ_eq_append_getElem hlt,List.map_append,List.map_cons,List.map_nil,yZ6,HM.out])
   have HAll:=qK (show L < 0→zY6 (plDs l) left=L from fun h=>by
    have h2:=yV5 ((l.take i).map plD) ((l.drop i).map plD) left (by rw[HM.out];exact h);rw[←List.map_append,List.take_append_drop,←zX3,HM.out] at h2;exact h2)
   have HOx:=qK (xT3 HIn.out (List.getElem_mem hlt));have HTx:=qK (HT.out _ (List.getElem_mem hlt));generalize l[i]=x at hc HTk HOx HTx;have hxe:∃ xk xp xl xa xb xAs xcs xsubs xAb xcb xbody xAt xct xtail xAl xcl xlead xtr xpos,x=.mk xk xp xl xa xb xAs xcs xsubs xAb xcb xbody xAt xct xtail xAl xcl xlead xtr xpos:=by cases x;exact⟨_,_,_,_,_,_,_,_,_,_,_,_,_,_,_,_,_,_,_,rfl⟩
   obtain⟨xk,xp,xl,xa,xb,xAs,xcs,xsubs,xAb,xcb,xbody,xAt,xct,xtail,xAl,xcl,xlead,xtr,xpos,rfl⟩:=hxe;have c0:=zZ0 HB.out hbW (hc 0 _ rfl);have c1:=zZ0 HB.out hbW (hc 1 _ rfl);have c2:=zZ0 HB.out hbW (hc 2 _ rfl);have c3:=zZ0 HB.out hbW (hc 3 _ rfl);have c4:=zZ0 HB.out hbW (hc 4 _ rfl);have c5:=zZ0 HB.out hbW (hc 5 _ rfl);have c6:=zZ0 HB.out hbW (hc 6 _ rfl);have c7:=zZ0 HB.out hbW (hc 7 _ rfl);have c8:=zZ0 HB.out hbW (hc 8 _ rfl);have c9:=zZ0 HB.out hbW (hc 9 _ rfl);have c10:=zZ0 HB.out hbW (hc 10 _ rfl);dsimp only[Nat.add_zero] at c0 c1 c2 c3 c4 c5 c6 c7 c8 c9 c10;have hba:=(Below.refl wr.heap.size wr).alloc qJ (.cells #[.int .i64 xk,.int .i64 xp,.string ⟨xl.toArray⟩,.string ⟨xa.toArray⟩,.string ⟨xb.toArray⟩,.slice xAs xsubs.length xcs,.slice xAb xbody.length xcb,.slice xAt xtail.length xct,.slice xAl xlead.length xcl,.string ⟨xtr.toArray⟩,.int .i64 xpos] 71);have B1:=qK (Blk.new wr 71 #[.int .i64 xk,.int .i64 xp,.string ⟨xl.toArray⟩,.string ⟨xa.toArray⟩,.string ⟨xb.toArray⟩,.slice xAs xsubs.length xcs,.slice xAb xbody.length xcb,.slice xAt xtail.length xct,.slice xAl xlead.length xcl,.string ⟨xtr.toArray⟩,.int .i64 xpos]);have HB1:=qK (HB.out.trans (hba.mono HB.out.size));go_upto_region 4 with fail
   clear c0 c1 c2 c3 c4 c5 c6 c7 c8 c9 c10 hbW hA hba hc HB;obtain⟨gx,hgx⟩:∃ gx,gx=wr.heap.size:=⟨_,rfl⟩;rw[←hgx] at B1 ⊢;generalize wr.alloc (.cells #[.int .i64 xk,.int .i64 xp,.string ⟨xl.toArray⟩,.string ⟨xa.toArray⟩,.string ⟨xb.toArray⟩,.slice xAs xsubs.length xcs,.slice xAb xbody.length xcb,.slice xAt xtail.length xct,.slice xAl xlead.length xcl,.string ⟨xtr.toArray⟩,.int .i64 xpos] 71)=wb at B1 HB1 ⊢;clear hgx;by_cases h0:L < 0
   ·go_wp2;go_ret;exact⟨by rw[HAll.out h0];rfl,HB1.out⟩
   ·have hI:=(zP7 HB1.out).2.1 _ HOx.out;rw[InD] at hI;obtain⟨_,_,hl,ha,hbl,⟨hS,_,hsx⟩,hIs,⟨hSb,_,hsb⟩,hIb,⟨hSt,_,hst,htl⟩,⟨hSe,_,hse,hel⟩,htr,_⟩:=hI;have hBB:=HBB.out;have hsx2:xsubs.length≤1099511627776:=by omega
    have htl2:xtail.length≤1099511627776:=by omega
    have hel2:xlead.length≤1099511627776:=by omega
    obtain⟨L0,hL0⟩:∃ L0:Int,L0=L-1-xlead.length-xtail.length-(zY3 [xl,xa,xb,xtr] / 20:Nat)-(zY3 xlead / 20:Nat)-(zY3 xtail / 20:Nat):=⟨_,rfl⟩;have HTd:=qK (show zY6 ((l.take (i+1)).map plD) left=zY6 (plDs xbody) (zX4 (plEs xsubs) L0) from by
     rw[HTk.out,if_neg h0,hL0];rfl)
    have q1:=zR2 [xl,xa,xb,xtr];have q2:=zR2 xlead;have q3:=zR2 xtail;have HSx:=qK hS;have HIx:=qK hIs;have HSb:=qK hSb;have HIb:=qK hIb;have HTe:=qK (show ∀ x∈xsubs,CoOk x from HTx.out.1);have HTb:=qK (show CdOk xbody from HTx.out.2);have HBd:=qK hsb;have hL1:L0≤149:=by omega
    have HS1:=qK (fun(g:Nat) (W:World) (h:Sl W W.heap.size 1 encS (some ⟨g,0,none⟩) [xl,xa,xb,xtr])=>zP2 (some ⟨g,0,none⟩) 4 [xl,xa,xb,xtr] W h (by simp) (fun s hs=>by
     simp only[List.mem_cons,List.not_mem_nil,or_false] at hs;rcases hs with rfl | rfl | rfl | rfl <;> omega))
    have HS2:=qK (fun(W:World) (h:Below wb.heap.size wb W)=>zP2 xAl xcl xlead W ((hSe.below h).more h.size) hel2 (fun s hs=>by have:=hel s hs;omega));have HS3:=qK (fun(W:World) (h:Below wb.heap.size wb W)=>zP2 xAt xct xtail W ((hSt.below h).more h.size) htl2 (fun s hs=>by have:=htl s hs;omega));generalize zY3 [xl,xa,xb,xtr]=n1 at HS1 hL0 q1;generalize zY3 xlead=n2 at HS2 hL0 q2;generalize zY3 xtail=n3 at HS3 hL0 q3;have t1:(n1:Int).tdiv 20=((n1 / 20:Nat):Int):=rfl;have t2:(n2:Int).tdiv 20=((n2 / 20:Nat):Int):=rfl;have t3:(n3:Int).tdiv 20=((n3 / 20:Nat):Int):=rfl;obtain⟨m1,hm1⟩:∃ m1,m1=n1 / 20:=⟨_,rfl⟩;obtain⟨m2,hm2⟩:∃ m2,m2=n2 / 20:=⟨_,rfl⟩;obtain⟨m3,hm3⟩:∃ m3,m3=n3 / 20:=⟨_,rfl⟩;rw[←hm1] at t1 hL0;rw[←hm2] at t2 hL0;rw[←hm3] at t3 hL0;have r1:m1≤500:=by omega
    have r2:m2≤500:=by omega
    have r3:m3≤500:=by omega
    have wq:∀ x:Int,-9223372036854775808≤x→x≤9223372036854775807→IntKind.i64.wrap x=x:=fun x h1 h2=>by
     simp[IntKind.wrap,IntKind.bits,IntKind.signed];omega
    have HL0:=qK (show IntKind.i64.wrap (IntKind.i64.wrap (IntKind.i64.wrap (IntKind.i64.wrap (IntKind.i64.wrap (IntKind.i64.wrap (L-1)-xlead.length)-xtail.length)-IntKind.i64.wrap (m1:Nat))-IntKind.i64.wrap (m2:Nat))-IntKind.i64.wrap (m3:Nat))=L0 from by
     rw[wq (L-1) qG qG,wq (m1:Nat) qG qG,wq (m2:Nat) qG qG,wq (m3:Nat) qG qG,wq (L-1-xlead.length) qG qG,wq (L-1-xlead.length-xtail.length) qG qG,wq (L-1-xlead.length-xtail.length-(m1:Nat)) qG qG,wq (L-1-xlead.length-xtail.length-(m1:Nat)-(m2:Nat)) qG qG,wq _ qG qG,hL0])
    have HL:=qK h0;clear wq hS hIs hSb hIb hSt hSe hL0 hm1 hm2 hm3 hl ha hbl htr htl hel hBB hsx hsb hst hse HTk HTx HOx HAll;have h0':¬ L < 0:=HL.out;go_upto_region 6 with fail
    apply zZ5 qF [isv _,isv _,isv _,isv _,isv _,isv _,isv _,isv _,isv _,isv _,isv _,isv _,isv _,isv _,isv _,isv _,isv _,isv _,isv _,isv _,(fun x W=>∃ g:Nat,x=.slice (some ⟨g,0,none⟩) 4 4∧Sl W W.heap.size 1 encS (some ⟨g,0,none⟩) [xl,xa,xb,xtr]),isv _,isv _,isv _,isv _,isv _,isv _,isv _,isv _,isv _,isv _,isv _,isv _,(isv (.int .i64 L0))] wb.heap.size wb qJ qH.drew qF qF qF qF qF (qC (qC (qC (qC (qC (qC (qC (qC (qC (qC (qC (qC (qC (qC (qC (qC (qC (qC (qC (qC (qA (fun _ _ _ ⟨g,e,h⟩ hb=>⟨g,e,(h.below hb).more hb.size⟩) (qC (qC (qC (qC (qC (qC (qC (qC (qC (qC (qC (qC (qC trivial)))))))))))))))))))))))))))))))))) ?steps (by rfl) _ rfl rfl ?fin;case steps=>
     refine qA (jN 34 1) (qA (qQ 0 18) (qA (qS 6) (qA (yT 2 20) (qA (qQ 3 21) (qA (qV 1 19 4 22) (qA (qS 6) (qA (yU 6 24) (qA (qQ 7 25) (qA (qV 5 23 8 26) (qA (qS 6) (qA ?_ ?_)))))))))))
     ·intro AA W KK QQ hB hs hd hl hk;obtain⟨_,sl28,rfl⟩:=hd 10 28 qF rfl;clear hs hd hl;have hx:=(B1.out.keep hB).cell 2;go_simp;exact hk _ _ rfl qH
     refine qA (qS 6) (qA (qQ 12 30) (qA ?_ ?_))
     ·intro AA W KK QQ hB hs hd hl hk;obtain⟨_,sl31,rfl⟩:=hd 13 31 qF rfl;clear hs hd hl;have hx:=(B1.out.keep hB).cell 3;go_simp;exact hk _ _ rfl qH
     refine qA (qS 6) (qA (qQ 15 33) (qA ?_ ?_))
     ·intro AA W KK QQ hB hs hd hl hk;obtain⟨_,sl34,rfl⟩:=hd 16 34 qF rfl;clear hs hd hl;have hx:=(B1.out.keep hB).cell 4;go_simp;exact hk _ _ rfl qH
     refine qA (qS 6) (qA ?_ ?_)
     ·intro AA W KK QQ hB hs hd hl hk;obtain⟨_,sl36,rfl⟩:=hd 18 36 qF rfl;clear hs hd hl;have hx:=(B1.out.keep hB).cell 9;go_simp;exact hk _ _ rfl qH
     refine qA ?_ ?_
     ·intro AA W KK QQ hB hs hd hl hk;obtain⟨_,sl29,rfl⟩:=hd 11 29 qF rfl;obtain⟨_,sl32,rfl⟩:=hd 14 32 qF rfl;obtain⟨_,sl35,rfl⟩:=hd 17 35 qF rfl;obtain⟨_,sl37,rfl⟩:=hd 19 37 qF rfl;clear hs hd hl;go_simp;exact hk _ _ ⟨_,rfl,sl_strs4 xl xa xb xtr W⟩ (qH.alloc qJ _)
     refine qA (yJ 20 38) (qA (qQ 21 39) (qA (qV 9 27 22 40) (qA (qS 6) (qA (yT 24 42) (qA (yR 25 43) (qA (qQ 26 44) (qA (qV 23 41 27 45) (qA (qS 6) (qA (yU 29 47) (qA ?_ ?_))))))))))
     ·intro AA W KK QQ hB hs hd hl hk;obtain⟨_,sl48,rfl⟩:=hd 30 48 qF rfl;clear hs hd hl;go_simp;refine(HS3.out W hB).mono ?_;rintro e W2 ⟨rfl,rfl⟩;exact hk _ _ rfl qH
     exact qA (qQ 31 49) (qA (yI 28 46 32 50) trivial)
    case fin=>
     intro w2 hB GG hGG
     iterate 20 refine qN ?_
     refine zZ4 38 rfl ?_;rintro _ ⟨_,rfl,_⟩
     iterate 12 refine qN ?_
     refine zZ4 51 rfl ?_;rintro _ rfl;refine zG9 hGG ?_;have B2:=qK (B1.out.keep hB);have HB2:=qK (HB1.out.trans (hB.mono HB1.out.size));have HU:=qK hB;have d5:=B2.out.cell 5;clear hB HS1 HS2 HS3 HL0 t1 t2 t3 q1 q2 q3 r1 r2 r3 h0' h0 HL;go_simp;go_upto_region 8 with fail
     clear d5;go_loopw [1,55] (fun lv jv wq=>∃ (j:Nat) (K:Int),j≤xsubs.length∧jv=.int .i64 (j:Nat)∧lv=.int .i64 K∧Hid (zX4 ((xsubs.take j).map plE) L0=K)∧K≤149∧Hid (Below wb.heap.size wb wq)) (fun _ jv _=>xsubs.length-(intOf jv).toNat)
     case atStart=>exact⟨0,L0,Nat.zero_le _,rfl,rfl,qK (by rw[List.take_zero,List.map_nil,zX4]),hL1,HU⟩
     case round=>
      clear B2 HB2 HU;obtain⟨j,K,hj,rfl,rfl,HMy,hK,HU⟩:=hrel;by_cases hjl:j < xsubs.length
      ·have hjl':(j:Int) < (xsubs.length:Int):=by omega
       obtain⟨bb,off,hA,hbW,hc⟩:=HSx.out.at_ hjl;have HTj:=qK (show zX4 ((xsubs.take (j+1)).map plE) L0=if 0≤K then zI9 (plE xsubs[j]) K else K from by
        rw[List.take_succ_eq_append_getElem hjl,List.map_append,List.map_cons,List.map_nil,zH0,HMy.out])
       have HOy:=qK (yI4 HIx.out (List.getElem_mem hjl));have HTy:=qK (HTe.out _ (List.getElem_mem hjl));generalize xsubs[j]=y at hc HTj HOy HTy;have hye:∃ yk yt ym ya yb yAs ycs ysubs yAd ycd ydecls yAt yct ytail ypos,y=.mk yk yt ym ya yb yAs ycs ysubs yAd ycd ydecls yAt yct ytail ypos:=by cases y;exact⟨_,_,_,_,_,_,_,_,_,_,_,_,_,_,_,rfl⟩
       obtain⟨yk,yt,ym,ya,yb,yAs,ycs,ysubs,yAd,ycd,ydecls,yAt,yct,ytail,ypos,rfl⟩:=hye;have c0:=zZ0 HU.out hbW (hc 0 _ rfl);have c1:=zZ0 HU.out hbW (hc 1 _ rfl);have c2:=zZ0 HU.out hbW (hc 2 _ rfl);have c3:=zZ0 HU.out hbW (hc 3 _ rfl);have c4:=zZ0 HU.out hbW (hc 4 _ rfl);have c5:=zZ0 HU.out hbW (hc 5 _ rfl);have c6:=zZ0 HU.out hbW (hc 6 _ rfl);have c7:=zZ0 HU.out hbW (hc 7 _ rfl);have c8:=zZ0 HU.out hbW (hc 8 _ rfl);dsimp only[Nat.add_zero] at c0 c1 c2 c3 c4 c5 c6 c7 c8;have hba:=(Below.refl wr.heap.size wr).alloc qJ (.cells #[.int .i64 yk,.string ⟨yt.toArray⟩,.int .i64 ym,.string ⟨ya.toArray⟩,.string ⟨yb.toArray⟩,.slice yAs ysubs.length ycs,.slice yAd ydecls.length ycd,.slice yAt ytail.length yct,.int .i64 ypos] 67);have B2:=qK (Blk.new wr 67 #[.int .i64 yk,.string ⟨yt.toArray⟩,.int .i64 ym,.string ⟨ya.toArray⟩,.string ⟨yb.toArray⟩,.slice yAs ysubs.length ycs,.slice yAd ydecls.length ycd,.slice yAt ytail.length yct,.int .i64 ypos]);have HU2:=qK (HU.out.trans (hba.mono HU.out.size));go_upto_region 10 with fail
       clear c0 c1 c2 c3 c4 c5 c6 c7 c8 hbW hA hba hc HU;obtain⟨gy,hgy⟩:∃ gy,gy=wr.heap.size:=⟨_,rfl⟩;rw[←hgy] at B2 ⊢;generalize wr.alloc (.cells #[.int .i64 yk,.string ⟨yt.toArray⟩,.int .i64 ym,.string ⟨ya.toArray⟩,.string ⟨yb.toArray⟩,.slice yAs ysubs.length ycs,.slice yAd ydecls.length ycd,.slice yAt ytail.length yct,.int .i64 ypos] 67)=wy at B2 HU2 ⊢;clear hgy;obtain⟨e0,e1,e2,e3,e4,e5,e6,e7,e8⟩:=zZ6 B2.out;by_cases h0:0≤K
       ·have cT:=HTy.out B K wy HBB.out h0 qG ((zP7 HU2.out).1 _ HOy.out);simp only[encE] at cT;have hle:=yP0 (plE (.mk yk yt ym ya yb yAs ycs ysubs yAd ycd ydecls yAt yct ytail ypos)) K;have HTz:=qK (HTj.out.trans (if_pos h0));generalize zI9 (plE (.mk yk yt ym ya yb yAs ycs ysubs yAd ycd ydecls yAt yct ytail ypos)) K=K2 at cT hle HTz;go_wp2_with fail
        refine cT.mono ?_;rintro r w4 ⟨rfl,hb4⟩;have HU4:=qK (HU2.out.trans (hb4.mono HU2.out.size));clear cT hb4 e0 e1 e2 e3 e4 e5 e6 e7 e8;go_wp2;go_roundw
        case rel=>exact⟨j+1,K2,by omega,by go_num,rfl,HTz,by omega,HU4⟩
        case measure=>simp[intOf];omega
       ·have HTz:=qK (HTj.out.trans (if_neg h0));go_wp2;go_roundw
        case rel=>exact⟨j+1,K,by omega,by go_num,rfl,HTz,hK,HU2⟩
        case measure=>simp[intOf];omega
      ·obtain rfl:j=xsubs.length:=by omega
       rw[List.take_length,←zX9] at HMy;have d6:=(B1.out.keep HU.out).cell 6;have cD:=HTb.out xAb xcb B K wr HBB.out qG ((HSb.out.below HU.out).more HU.out.size) HBd.out ((zP7 HU.out).2.2.2 _ HIb.out);have hle:=zP1 (plDs xbody) K;have HTz:=qK (show zY6 ((l.take (i+1)).map plD) left=zY6 (plDs xbody) K from by rw[HTd.out,HMy.out]);generalize zY6 (plDs xbody) K=K2 at cD hle HTz;have HB5:=qK (HB1.out.trans (HU.out.mono HB1.out.size));go_wp2_with fail
       refine cD.mono ?_;rintro r w4 ⟨rfl,hb4⟩;have HB4:=qK (HB5.out.trans (hb4.mono HB5.out.size));clear cD hb4 d6;go_wp2;go_roundw
       case rel=>exact⟨i+1,K2,by omega,by go_num,rfl,HTz,by omega,HB4⟩
       case measure=>simp[intOf];omega
  ·exact xE
end Go.Proofs.YtdgehhgjgifikaaGreatDoor
