/- What the claim needs of:OC. -/
import Derived.Test.YtdgehhgjgifikaaGreatDoorK41
import Derived.Test.YtdgehhgjgifikaaGreatDoorK29
namespace Go.Proofs.YtdgehhgjgifikaaGreatDoor
open Go.RowKit
theorem yD0:∀ fs:List Fl,(zY5 fs).1.length≤ndFs fs∧(zY5 fs).2.length≤ndFs fs
 | []=>⟨Nat.zero_le _,Nat.zero_le _⟩
 | f ::fs=>by
   obtain⟨h1,h2⟩:=yD0 fs;have h3:=yW8.2 f.decls;have h4:(zH8 f.decls).length≤f.decls.length:=List.length_filterMap_le _ _;have h5:(zE2 f.decls).length≤f.decls.length:=List.length_filterMap_le _ _;unfold zY5 at h1 h2 ⊢;rw[ndFs,List.flatMap_cons,List.flatMap_cons,List.length_append,List.length_append];exact⟨by have:(fs.flatMap fun f=>zH8 f.decls).length≤ndFs fs:=h1;omega,by have:(fs.flatMap fun f=>zE2 f.decls).length≤ndFs fs:=h2;omega⟩
theorem xR4 (rx:Tx→Bool)(p:Pk)(h:smP p=true):(zR0 rx p).1.length≤1099511627776:=by
 unfold zR0;split
 ·exact Nat.zero_le _
 ·have h1:=yM4 ((zY5 p.files).1++(zY5 p.files).2) [];have h2:=yD0 p.files;have h3:=smP_nd h;rw[List.length_append] at h1;simp only[List.length_nil] at h1;show ((((zY5 p.files).1++(zY5 p.files).2).foldl insU []).length)≤_;omega
theorem in_snoc (s:Tx)(l:List Tx)(x:Tx):decide (s∈l++ [x])=(decide (s∈l)||decide (x=s)):=by
 rw[Bool.eq_iff_iff];simp only[decide_eq_true_eq,Bool.or_eq_true,List.mem_append,List.mem_singleton];exact⟨fun h=>h.imp id Eq.symm,fun h=>h.imp id Eq.symm⟩
theorem yA9 {fs:List Fl}{ns:List Tx}{u:Us}{kn im:Bool}(h:xT2 fs ns u=true)(hk:decide (u.name∈ns)=kn)(hi:decide (u.name∈(zM7 fs).getD u.file.toNat [])=im) :
  (u.kind=1∧0≤u.depth∧(u.depth≠0∨kn=true))∨(u.kind=2∧0≤u.depth∧(u.depth≠0∨kn=true))∨(u.kind=4∧u.depth=0∧kn=false∧im=true)∨(u.kind=0∧u.depth=0∧kn=false∧im=false)∨(u.kind≠1∧u.kind≠2∧u.kind≠4∧u.kind≠0∧u.depth=0):=by
 unfold xT2 at h;rw[hk,hi] at h;simp only[Bool.and_eq_true,Bool.or_eq_true,Bool.not_eq_true',decide_eq_false_iff_not] at h;obtain⟨h1,h2,h3⟩:=h;by_cases k1:u.kind=1
 ·rw[if_pos (.inl k1)] at h1;simp only[Bool.and_eq_true,Bool.or_eq_true,Bool.not_eq_true',decide_eq_false_iff_not,decide_eq_true_eq] at h1;exact .inl ⟨k1,h1.1,h1.2⟩
 by_cases k2:u.kind=2
 ·rw[if_pos (.inr k2)] at h1;simp only[Bool.and_eq_true,Bool.or_eq_true,Bool.not_eq_true',decide_eq_false_iff_not,decide_eq_true_eq] at h1;exact .inr (.inl ⟨k2,h1.1,h1.2⟩)
 rw[if_neg (by rintro(h | h);exact k1 h;exact k2 h),decide_eq_true_eq] at h1;by_cases k4:u.kind=4
 ·rcases h2 with h2 | h2
  ·exact absurd k4 h2
  ·exact .inr (.inr (.inl ⟨k4,h1,h2.1,h2.2⟩))
 by_cases k0:u.kind=0
 ·rcases h3 with h3 | h3
  ·exact absurd k0 h3
  ·exact .inr (.inr (.inr (.inl ⟨k0,h1,h3.1,h3.2⟩)))
 exact .inr (.inr (.inr (.inr ⟨k1,k2,k4,k0,h1⟩)))
set_option maxRecDepth 100000 in
theorem zT2 {Q:Exit→Act→World→Prop}{W:World}{fs:List Fact}{aa ab ac ad ae af ag ah ai aj ak al am an ao ap aq ar au av aw ax ay az aA aB aC aD aE aF aG aH aI aJ aK aL aM aN aO aP aQ aR aS aT aU aV aW aX aY aZ a0 a1 a2 a3 a4 a5 a6 a7 a8 a9 ba bb bc bd be bf bg bh bi bj bk bl bm bn bo bp bq br bs bt bu bv bw bx bz bA bB bC bD bE bF bG bH bI bJ bK bL bM bN bO bP bQ bR bS bT bU bV bW bX bY bZ b0 b1 b2 b3 b4 b5 b6 b7 b8 b9 ca cb cc cd ce cf cg ch ci cj ck cl cm cn co cp cq cr cs ct cu cv cw cx cy cz cA cB cC cD cE cF cG cH cI cJ cK cL cM cN cO cP cQ cR cS cT cU cV cW cX cY cZ c0 c1 c2 c3 c4 c5 c6 c7 c8 c9 da db dc dd de df dg dh di dj dk dl dm dn dp dq dr ds dt du dv dw dx dy dz dA dB dC dD dE dF dG dH dI dJ dK dL dM dN dO dP dQ dR dS dT dU dV dW dX:Value}(h:Q .normal (Act.mk #[aa,ab,ac,ad,ae,af,ag,ah,ai,aj,ak,al,am,an,ao,ap,aq,ar,au,av,aw,ax,ay,az,aA,aB,aC,aD,aE,aF,aG,aH,aI,aJ,aK,aL,aM,aN,aO,aP,aQ,aR,aS,aT,aU,aV,aW,aX,aY,aZ,a0,a1,a2,a3,a4,a5,a6,a7,db,dc,dd,de,df,dg,dh,di,dj,dk,dl,dm,dn,dp,dq,dr,ds,dt,du,dv,dw,dx,dy,dz,dA,dB,dC,dD,dE,dF,dG,dH,dI,dJ,dK,dL,dM,dN,dO,dP,dQ,dR,dS,dT,dU,dV,dW,dX,bV,bW,bX,bY,bZ,b0,b1,b2,b3,b4,b5,b6,b7,b8,b9,ca,cb,cc,cd,ce,cf,cg,ch,ci,cj,ck,cl,cm,cn,co,cp,cq,cr,cs,ct,cu,cv,cw,cx,cy,cz,cA,cB,cC,cD,cE,cF,cG,cH,cI,cJ,cK,cL,cM,cN,cO,cP,cQ,cR,cS,cT,cU,cV,cW,cX,cY,cZ,c0,c1,c2,c3,c4,c5,c6,c7,c8,c9,da] []) W):zY0 W (fun A=>Q .normal A W) [] fs (Act.put (Act.put (Act.put (Act.put (Act.put (Act.put (Act.put (Act.put (Act.put (Act.put (Act.put (Act.put (Act.put (Act.put (Act.put (Act.put (Act.put (Act.put (Act.put (Act.put (Act.put (Act.put (Act.put (Act.put (Act.put (Act.put (Act.put (Act.put (Act.put (Act.put (Act.put (Act.put (Act.put (Act.put (Act.put (Act.put (Act.put (Act.put (Act.put (Act.put (Act.put (Act.put (Act.put (Act.put (Act.put (Act.put (Act.put (Act.put (Act.mk #[aa,ab,ac,ad,ae,af,ag,ah,ai,aj,ak,al,am,an,ao,ap,aq,ar,au,av,aw,ax,ay,az,aA,aB,aC,aD,aE,aF,aG,aH,aI,aJ,aK,aL,aM,aN,aO,aP,aQ,aR,aS,aT,aU,aV,aW,aX,aY,aZ,a0,a1,a2,a3,a4,a5,a6,a7,a8,a9,ba,bb,bc,bd,be,bf,bg,bh,bi,bj,bk,bl,bm,bn,bo,bp,bq,br,bs,bt,bu,bv,bw,bx,bz,bA,bB,bC,bD,bE,bF,bG,bH,bI,bJ,bK,bL,bM,bN,bO,bP,bQ,bR,bS,bT,bU,bV,bW,bX,bY,bZ,b0,b1,b2,b3,b4,b5,b6,b7,b8,b9,ca,cb,cc,cd,ce,cf,cg,ch,ci,cj,ck,cl,cm,cn,co,cp,cq,cr,cs,ct,cu,cv,cw,cx,cy,cz,cA,cB,cC,cD,cE,cF,cG,cH,cI,cJ,cK,cL,cM,cN,cO,cP,cQ,cR,cS,cT,cU,cV,cW,cX,cY,cZ,c0,c1,c2,c3,c4,c5,c6,c7,c8,c9,da] []) (some 58) db) (some 59) dc) (some 60) dd) (some 61) de) (some 62) df) (some 63) dg) (some 64) dh) (some 65) di) (some 66) dj) (some 67) dk) (some 68) dl) (some 69) dm) (some 70) dn) (some 71) dp) (some 72) dq) (some 73) dr) (some 74) ds) (some 75) dt) (some 76) du) (some 77) dv) (some 78) dw) (some 79) dx) (some 80) dy) (some 81) dz) (some 82) dA) (some 83) dB) (some 84) dC) (some 85) dD) (some 86) dE) (some 87) dF) (some 88) dG) (some 89) dH) (some 90) dI) (some 91) dJ) (some 92) dK) (some 93) dL) (some 94) dM) (some 95) dN) (some 96) dO) (some 97) dP) (some 98) dQ) (some 99) dR) (some 100) dS) (some 101) dT) (some 102) dU) (some 103) dV) (some 104) dW) (some 105) dX):=
 zL1 qF h
set_option maxRecDepth 100000 in
set_option maxHeartbeats 16000000 in
theorem Kinds_any (B:Nat)(p:PA)(w:World)(hB:B≤1099511627776)(hP:InP w B p)(hG:Glob w):Calls Tryz.prog 9 #[.agg #[.string ⟨p.path.toArray⟩,.slice p.A p.files.length p.c]] w fun e w'=>e=.returned (.bool true)∧Below w.heap.size w w':=by
 obtain⟨path,A,c,files⟩:=p;have hb:=(Below.refl w.heap.size w).alloc qJ (.cells #[.string ⟨path.toArray⟩,.slice A files.length c] 24);have HBx:=qK (Blk.new w 24 #[.string ⟨path.toArray⟩,.slice A files.length c]);have HW:=qK hb;have HIn:=qK (hP.keep hb);have HG1:=qK (hG.keep hb);have HBB:=qK hB;clear hb hP hG hB;go_enter Tryz.func9,Tryz.ntmps9
 go_upto_region 1 with fail
 generalize hw1:w.alloc (.cells #[.string ⟨path.toArray⟩,.slice A files.length c] 24)=w1 at HBx HW HIn HG1 ⊢;clear hw1;have x0:=HBx.out.cell 0;have x1:=HBx.out.cell 1;have cS:=xT4 B _ w1 HBB.out HIn.out;have HPk:=qK (fun(W:World) (h:Below w1.heap.size w1 W) (hs:smP (plP ⟨path,A,c,files⟩)=true)=>(HIn.out.keep h).pkS HBB.out hs);generalize hsm:smP (plP ⟨path,A,c,files⟩)=sm at cS HPk;go_wp2_with fail
 refine cS.mono ?_;rintro e w2 ⟨rfl,hb2⟩;have HB2:=qK hb2;have HG2:=qK (HG1.out.keep hb2);clear cS hb2 x0 x1;cases sm
 ·go_wp2_with fail
  refine(yZ0 w2 HG2.out).mono ?_;rintro e w3 ⟨rfl,hb3⟩;have HF:=qK (HW.out.trans ((HB2.out.trans (hb3.mono HB2.out.size)).mono HW.out.size));clear hb3;go_wp2;go_ret;exact⟨rfl,HF.out⟩
 ·have HLn:=qK (xR4 rxP _ hsm);have x0:=(HBx.out.keep HB2.out).cell 0;have x1:=(HBx.out.keep HB2.out).cell 1;have cU:=xV2 rxP ⟨path,A,c,files⟩ w2 (HPk.out _ HB2.out rfl) (xR3 _) HG2.out;have HDc:=qK (fun W h hg=>zA3 rxP ⟨path,A,c,files⟩ W (HPk.out W h rfl) (xR3 _) hg);have HKi:=qK (kinds_ok rxP (plP ⟨path,A,c,files⟩));have HUe:=qK (show (zT0 rxP (plP ⟨path,A,c,files⟩)).2=errP rxP (plP ⟨path,A,c,files⟩)∧(zR0 rxP (plP ⟨path,A,c,files⟩)).2=errP rxP (plP ⟨path,A,c,files⟩)∧(errP rxP (plP ⟨path,A,c,files⟩)≠0→(zT0 rxP (plP ⟨path,A,c,files⟩)).1=[]∧(zR0 rxP (plP ⟨path,A,c,files⟩)).1=[]) from by
   unfold zT0 zR0;by_cases h:errP rxP (plP ⟨path,A,c,files⟩)≠0
   ·rw[if_pos h,if_pos h];exact⟨rfl,rfl,fun _=>⟨rfl,rfl⟩⟩
   ·rw[if_neg h,if_neg h];have h0:errP rxP (plP ⟨path,A,c,files⟩)=0:=Classical.byContradiction h;exact⟨h0.symm,h0.symm,fun h2=>absurd h2 h⟩)
  have HIm:=qK (show zM7 (plP ⟨path,A,c,files⟩).files=files.map (fun f=>f.imps.map (·.name)) from by
   show zM7 (files.map plF)=_;unfold zM7;rw[List.map_map];rfl)
  have HFl:=qK (show (plP ⟨path,A,c,files⟩).files.length=files.length from List.length_map _);generalize zT0 rxP (plP ⟨path,A,c,files⟩)=U at cU HKi HUe;generalize zR0 rxP (plP ⟨path,A,c,files⟩)=D at HDc HKi HUe HLn;obtain⟨us,ue⟩:=U;obtain⟨ns,ne⟩:=D;obtain⟨hu1,hu2,hu3⟩:=HUe.out;dsimp only at cU HDc HKi hu1 hu2 hu3 HLn;subst hu1;subst hu2;have HU3:=qK hu3;clear HUe hu3 HPk hsm;generalize errP rxP (plP ⟨path,A,c,files⟩)=er at cU HDc HKi HU3;go_wp2_with fail
  refine cU.mono ?_;rintro e w3 ⟨A3,c3,rfl,hS3,hl3,hb3,_⟩;have HB3:=qK (HB2.out.trans (hb3.mono HB2.out.size));have HG3:=qK (HG2.out.keep hb3);have cD:=HDc.out w3 HB3.out HG3.out;have HS3:=qK hS3;clear cU hb3 HDc hS3 x0 x1;have x0:=(HBx.out.keep HB3.out).cell 0;have x1:=(HBx.out.keep HB3.out).cell 1;go_wp2_with fail
  refine cD.mono ?_;rintro e w4 ⟨A4,c4,rfl,hS4,hb4⟩;have HB4:=qK (HB3.out.trans (hb4.mono HB3.out.size));have HG4:=qK (HG3.out.keep hb4);have HS4:=qK hS4;have HS3:=qK ((HS3.out.below hb4).more hb4.size);clear cD hb4 hS4 x0 x1;by_cases he:er=0
  case' neg=>
   obtain⟨hu,hn⟩:=HU3.out he;subst hu;subst hn;have he2:(er == 0)=false:=beq_eq_false_iff_ne.2 he;go_wp2_with fail
   refine(yZ0 w4 HG4.out).mono ?_;rintro e w5 ⟨rfl,hb5⟩;have HF:=qK (HW.out.trans ((HB4.out.trans (hb5.mono HB4.out.size)).mono HW.out.size));clear hb5;go_wp2;go_ret;exact⟨rfl,HF.out⟩
  case' pos=>
   subst he;obtain⟨hk1,hk2⟩:=HKi.out rfl;rw[HFl.out] at hk1;have HK1:=qK hk1;have HK2:=qK hk2;have HBl:=qK (show w.heap.size < w1.heap.size from HBx.out.lt);clear hk1 hk2 HKi HU3;go_upto_region 8 with fail
   go_loopw [53] (fun iv wq=>∃ i:Nat,i≤us.length∧iv=.int .i64 (i:Nat)∧Hid (Below w4.heap.size w4 wq)) (fun iv _=>us.length-(intOf iv).toNat)
   case atStart=>exact⟨0,Nat.zero_le _,rfl,qK qH⟩
   case round=>
    obtain⟨i,hi,rfl,HB⟩:=hrel;by_cases hlt:i < us.length
    ·have hlt':(i:Int) < (us.length:Int):=by omega
     obtain⟨bb,off,hA,hbW,hc⟩:=HS3.out.at_ hlt;have hku:=HK1.out _ (List.getElem_mem hlt);have HPv:=qK (show ∀ q,(h:i=q+1)→∃ pv:Us,ordU pv us[i]∧∀ (j:Nat) (v:Value),(encU pv)[j]? = some v→w4.cell? ⟨bb,off+q*5+j,none⟩=some v from fun q h=>by
      have hq:q < us.length:=by omega
      refine⟨us[q],List.pairwise_iff_getElem.1 HK2.out q i hq hlt qG,fun j v hv=>?_⟩;obtain⟨b2,off2,hA2,_,hc2⟩:=HS3.out.at_ hq;rw[hA] at hA2;injection hA2 with hA2
      injection hA2 with hA2 hA3
      subst hA2 hA3;exact hc2 j v hv)
     generalize us[i]=u at hc hku HPv;obtain⟨uf,upos,un,uk,ud⟩:=u;obtain⟨hf0,hf1,hkb⟩:=hku;dsimp only at hf0 hf1;obtain⟨fi,rfl⟩:∃ n:Nat,uf=n:=⟨uf.toNat,by omega⟩;have hfi:fi < files.length:=by omega
     have HKb:=qK hkb;have HBq:=qK hbW;have c0:=zZ0 HB.out hbW (hc 0 _ rfl);have c1:=zZ0 HB.out hbW (hc 1 _ rfl);have c2:=zZ0 HB.out hbW (hc 2 _ rfl);have c3:=zZ0 HB.out hbW (hc 3 _ rfl);have c4':=zZ0 HB.out hbW (hc 4 _ rfl);dsimp only[Nat.add_zero] at c0 c1 c2 c3 c4';have hba:=(Below.refl wr.heap.size wr).alloc qJ (.cells #[.int .i64 (fi:Nat),.int .i64 upos,.string ⟨un.toArray⟩,.int .i64 uk,.int .i64 ud] 52);have B1:=qK (Blk.new wr 52 #[.int .i64 (fi:Nat),.int .i64 upos,.string ⟨un.toArray⟩,.int .i64 uk,.int .i64 ud]);have HB1:=qK (HB.out.trans (hba.mono HB.out.size));go_upto_region 10 with fail
     clear c0 c1 c2 c3 c4' hbW hba hc HB hkb;obtain⟨gx,hgx⟩:∃ gx,gx=wr.heap.size:=⟨_,rfl⟩;rw[←hgx] at B1 ⊢;generalize wr.alloc (.cells #[.int .i64 (fi:Nat),.int .i64 upos,.string ⟨un.toArray⟩,.int .i64 uk,.int .i64 ud] 52)=wb at B1 HB1 ⊢;clear hgx;have BP:=qK (HBx.out.keep (HB4.out.trans (HB1.out.mono HB4.out.size)));have hfl:¬ ((files.length:Int)≤(fi:Int)):=by omega
     have hf0':¬ ((fi:Int) < 0):=by omega
     obtain⟨z,hz⟩:∃ z:Int,z=(i:Int):=⟨_,rfl⟩;rw[←hz];subst hA;go_cut [105] from 58 to 105 (fun v wx=>v=.bool false∧Below wb.heap.size wb wx)
     case first=>
      by_cases hi0:i=0
      ·have h0:¬ ((0:Int) < z):=by omega
       clear hi0 hz;apply zZ3 qF [isv _,isv _,isv _,isv _,isv _,isv _,isv _,isv _,isv _,isv _,isv _,isv _,isv _,isv _,isv _,isv _,isv _,isv _,isv _,isv _,isv _,isv _,isv _,isv _,isv _,isv _,isv _,isv _,isv _,isv _,isv _,isv _,isv _,isv _,isv _,isv _,isv _,isv _,isv _,isv _,isv _,isv _,isv _,isv _,isv _,isv _,isv _,isv _] wb.heap.size wb qJ qH.drew qF qF qF (qC (qC (qC (qC (qC (qC (qC (qC (qC (qC (qC (qC (qC (qC (qC (qC (qC (qC (qC (qC (qC (qC (qC (qC (qC (qC (qC (qC (qC (qC (qC (qC (qC (qC (qC (qC (qC (qC (qC (qC (qC (qC (qC (qC (qC (qC (qC (qC trivial)))))))))))))))))))))))))))))))))))))))))))))))) ?steps (by rfl) ?fin;case steps=>exact qA (qS 8) (qA (yH 0 58) (qA (qQ 1 59) (qA (qQ 2 60) (qA (qR 8 3 61) (qA (kF 3 61 4 62) (qA (qR 1 3 61) (qA (jE 3 61 6 64) (qA (qP 3 61 7 65) (qA (qW 3 61 5 63 8 66) (qA (qV 3 61 9 67) (qA (qQ 10 68) (qA (qR 7 11 69) (qA (qP 11 69 12 70) (qA (qP 11 69 13 71) (qA (kB 3 14 72) (qA (kB 7 14 72) (qA (qX 14 72 16 74) (qA (kE 14 72 15 73 17 75) (qA (qX 14 72 18 76) (qA (qX 14 72 19 77) (qA (kB 8 14 72) (qA (qX 14 72 21 79) (qA (kE 14 72 20 78 22 80) (qA (qX 14 72 23 81) (qA (kB 3 24 82) (qA (kB 7 24 82) (qA (qX 24 82 26 84) (qA (kE 24 82 25 83 27 85) (qA (qX 24 82 28 86) (qA (qX 24 82 29 87) (qA (kB 8 24 82) (qA (qX 24 82 31 89) (qA (kE 24 82 30 88 32 90) (qA (qX 24 82 33 91) (qA (kB 3 34 92) (qA (kB 7 34 92) (qA (qX 34 92 36 94) (qA (kE 34 92 35 93 37 95) (qA (qX 34 92 38 96) (qA (qX 34 92 39 97) (qA (kB 8 34 92) (qA (qX 34 92 41 99) (qA (kE 34 92 40 98 42 100) (qA (kE 24 82 34 92 43 101) (qA (kE 14 72 24 82 44 102) (qA (qW 11 69 14 72 45 103) (qA (qV 11 69 46 104) trivial)))))))))))))))))))))))))))))))))))))))))))))))
       case fin=>
        intro wc hB
        iterate 48 refine qN ?_
        refine zT2 ?_;go_wp2_with fail
        go_meet
        case rel=>exact⟨rfl,hB⟩
      ·obtain⟨q,hq⟩:∃ q,i=q+1:=⟨i-1,by omega⟩;obtain⟨⟨pf,pp,pn,pk,pd⟩,ho,hpc⟩:=HPv.out q hq;have h0:(0:Int) < z:=by omega
       have hqi:(q:Int) < (us.length:Int):=by omega
       have HQ:=qK (show IntKind.i64.wrap (z-1)=(q:Nat) from by
        rw[hz,hq];simp[IntKind.wrap,IntKind.bits,IntKind.signed];omega)
       have HPr0:=qK (fun(W:World) (h:Below wb.heap.size wb W)=>zZ0 h (Nat.lt_of_lt_of_le HBq.out HB1.out.size) (zZ0 HB1.out HBq.out (hpc 0 _ rfl)));have HPr1:=qK (fun(W:World) (h:Below wb.heap.size wb W)=>zZ0 h (Nat.lt_of_lt_of_le HBq.out HB1.out.size) (zZ0 HB1.out HBq.out (hpc 1 _ rfl)));dsimp only[Nat.add_zero] at HPr0 HPr1;have ho2:pf < (fi:Int)∨(pf=(fi:Int)∧pp≤upos):=ho;clear ho hpc HPv hq hi0 hz;rcases ho2 with hlf | ⟨rfl,hpp⟩
       ·have hg1:¬ ((fi:Int) < pf):=by omega
        have hg2:(pf == (fi:Int))=false:=by rw[beq_eq_false_iff_ne];omega
        apply zZ3 qF [isv _,isv _,isv _,isv _,isv _,isv _,isv _,isv _,isv _,isv _,isv _,isv _,isv _,isv _,isv _,isv _,isv _,(isv (.int .i64 (q:Nat))),isv _,isv _,isv _,isv _,isv _,isv _,isv _,isv _,isv _,(isv (.int .i64 (q:Nat))),isv _,isv _,isv _,isv _,isv _,isv _,isv _,isv _,isv _,isv _,isv _,isv _,isv _,isv _,isv _,isv _,isv _,isv _,isv _,isv _] wb.heap.size wb qJ qH.drew qF qF qF (qC (qC (qC (qC (qC (qC (qC (qC (qC (qC (qC (qC (qC (qC (qC (qC (qC (qC (qC (qC (qC (qC (qC (qC (qC (qC (qC (qC (qC (qC (qC (qC (qC (qC (qC (qC (qC (qC (qC (qC (qC (qC (qC (qC (qC (qC (qC (qC trivial)))))))))))))))))))))))))))))))))))))))))))))))) ?steps (by rfl) ?fin;case steps=>exact qA (qS 8) (qA (yH 0 58) (qA (qQ 1 59) (qA (qQ 2 60) (qA (qR 8 3 61) (qA (kF 3 61 4 62) (qA (qR 1 3 61) (qA (jE 3 61 6 64) (qA (qP 3 61 7 65) (qA (qW 3 61 5 63 8 66) (qA (qV 3 61 9 67) (qA (qQ 10 68) (qA (qR 7 11 69) (qA (qP 11 69 12 70) (qA (qP 11 69 13 71) (qA (qR 3 14 72) (qA (qR 7 14 72) (qA (kS 14 72 16 74) (qA (qW 14 72 15 73 17 75) (qA (qP 14 72 18 76) (qA (kY 14 72 19 77) (qA (qR 8 14 72) (qA (kF 14 72 21 79) (qA (qW 14 72 20 78 22 80) (qA (qP 14 72 23 81) (qA (qR 3 24 82) (qA (qR 7 24 82) (qA (kS 24 82 26 84) (qA (qW 24 82 25 83 27 85) (qA (qP 24 82 28 86) (qA (kY 24 82 29 87) (qA (qR 8 24 82) (qA (kF 24 82 31 89) (qA (qW 24 82 30 88 32 90) (qA (qP 24 82 33 91) (qA (kB 3 34 92) (qA (kB 7 34 92) (qA (qX 34 92 36 94) (qA (kE 34 92 35 93 37 95) (qA (qX 34 92 38 96) (qA (qX 34 92 39 97) (qA (kB 8 34 92) (qA (qX 34 92 41 99) (qA (kE 34 92 40 98 42 100) (qA (qW 24 82 34 92 43 101) (qA (qW 14 72 24 82 44 102) (qA (qW 11 69 14 72 45 103) (qA (qV 11 69 46 104) trivial)))))))))))))))))))))))))))))))))))))))))))))))
        case fin=>
         intro wc hB
         iterate 17 refine qN ?_
         refine zZ4 75 rfl ?_;rintro _ rfl
         iterate 9 refine qN ?_
         refine zZ4 85 rfl ?_;rintro _ rfl
         iterate 20 refine qN ?_
         refine zT2 ?_;go_wp2_with fail
         go_meet
         case rel=>exact⟨rfl,hB⟩
       ·have hg1:¬ (upos < pp):=by omega
        apply zZ3 qF [isv _,isv _,isv _,isv _,isv _,isv _,isv _,isv _,isv _,isv _,isv _,isv _,isv _,isv _,isv _,isv _,isv _,(isv (.int .i64 (q:Nat))),isv _,isv _,isv _,isv _,isv _,isv _,isv _,isv _,isv _,(isv (.int .i64 (q:Nat))),isv _,isv _,isv _,isv _,isv _,isv _,isv _,isv _,isv _,(isv (.int .i64 (q:Nat))),isv _,isv _,isv _,isv _,isv _,isv _,isv _,isv _,isv _,isv _] wb.heap.size wb qJ qH.drew qF qF qF (qC (qC (qC (qC (qC (qC (qC (qC (qC (qC (qC (qC (qC (qC (qC (qC (qC (qC (qC (qC (qC (qC (qC (qC (qC (qC (qC (qC (qC (qC (qC (qC (qC (qC (qC (qC (qC (qC (qC (qC (qC (qC (qC (qC (qC (qC (qC (qC trivial)))))))))))))))))))))))))))))))))))))))))))))))) ?steps (by rfl) ?fin;case steps=>
         refine qA (qS 8) (qA (yH 0 58) (qA (qQ 1 59) (qA (qQ 2 60) (qA (qR 8 3 61) (qA (kF 3 61 4 62) (qA (qR 1 3 61) (qA (jE 3 61 6 64) (qA (qP 3 61 7 65) (qA (qW 3 61 5 63 8 66) (qA (qV 3 61 9 67) (qA (qQ 10 68) (qA (qR 7 11 69) (qA (qP 11 69 12 70) (qA (qP 11 69 13 71) (qA (qR 3 14 72) (qA (qR 7 14 72) (qA (kS 14 72 16 74) (qA (qW 14 72 15 73 17 75) (qA (qP 14 72 18 76) (qA (kY 14 72 19 77) (qA (qR 8 14 72) (qA (kF 14 72 21 79) (qA (qW 14 72 20 78 22 80) (qA (qP 14 72 23 81) (qA (qR 3 24 82) (qA (qR 7 24 82) (qA (kS 24 82 26 84) (qA (qW 24 82 25 83 27 85) (qA (qP 24 82 28 86) (qA (kY 24 82 29 87) (qA (qR 8 24 82) (qA (kF 24 82 31 89) (qA (qW 24 82 30 88 32 90) (qA (qP 24 82 33 91) (qA (qR 3 34 92) (qA (qR 7 34 92) (qA (kS 34 92 36 94) (qA (qW 34 92 35 93 37 95) (qA (qP 34 92 38 96) (qA ?_ ?_))))))))))))))))))))))))))))))))))))))))
         ·intro AA W KK QQ hB hs hd hl hk;obtain⟨_,sl92,rfl⟩:=hd 34 92 qF rfl;obtain⟨_,sl97,rfl⟩:=hd 39 97 qF rfl;clear hs hd hl;have hx:=HPr1.out W hB;refine⟨_,_,rfl,sl92,?_⟩;first
           | (change Oper.wp _ _ _ _ _ _;go_simp;exact hk _ _ rfl qH)
           | exact rfl
         refine qA (qR 8 34 92) (qA ?_ ?_)
         ·intro AA W KK QQ hB hs hd hl hk;obtain⟨_,sl92,rfl⟩:=hd 34 92 qF rfl;obtain⟨_,sl99,rfl⟩:=hd 41 99 qF rfl;clear hs hd hl;have hx:=(B1.out.keep hB).cell 1;refine⟨_,_,rfl,sl92,?_⟩;first
           | (change Oper.wp _ _ _ _ _ _;go_simp;exact hk _ _ rfl qH)
           | exact rfl
         exact qA (qW 34 92 40 98 42 100) (qA (qW 24 82 34 92 43 101) (qA (qW 14 72 24 82 44 102) (qA (qW 11 69 14 72 45 103) (qA (qV 11 69 46 104) trivial))))
        case fin=>
         intro wc hB
         iterate 17 refine qN ?_
         refine zZ4 75 rfl ?_;rintro _ rfl
         iterate 9 refine qN ?_
         refine zZ4 85 rfl ?_;rintro _ rfl
         iterate 9 refine qN ?_
         refine zZ4 95 rfl ?_;rintro _ rfl
         iterate 10 refine qN ?_
         refine zT2 ?_;go_wp2_with fail
         go_meet
         case rel=>exact⟨rfl,hB⟩
     obtain⟨rfl,hbc⟩:=hcut;subst hz;have HB5:=qK (HB1.out.trans (hbc.mono HB1.out.size));have B5:=qK (B1.out.keep hbc);have BP5:=qK (BP.out.keep hbc);clear hbc B1 HB1 BP HPv;obtain⟨fb,fo,hAf,hfb,hfc⟩:=HIn.out.files.at_ hfi;have hfin:=HIn.out.each _ (List.getElem_mem hfi);have hgd:(zM7 (plP ⟨path,A,c,files⟩).files).getD ((fi:Nat):Int).toNat []=(files[fi]).imps.map (·.name):=by
      rw[HIm.out];simp[hfi]
     have HKc:=qK (fun kn im hk hi=>@yA9 _ ns ⟨(fi:Nat),upos,un,uk,ud⟩ kn im HKb.out hk hi);dsimp only at HKc;rw[hgd] at HKc;have hAf2:A=some ⟨fb,fo,none⟩:=hAf;dsimp only at hfc hfin;generalize files[fi]=f at hfc hfin HKc;obtain⟨fpkg,fAi,fci,fimps,fAd,fcd,fdecls,fAt,fct,ftail⟩:=f;have HSi:=qK (show Sl w1 w1.heap.size 3 encI fAi fimps from hfin.imps);have hni:fimps.length≤1099511627776:=Nat.le_trans hfin.ni.2 HBB.out;have HB6:=qK (HB4.out.trans (HB5.out.mono HB4.out.size));have c1:=zZ0 HB6.out hfb (hfc 1 _ rfl);dsimp only at HKc c1;subst hAf2;have x1:=BP5.out.cell 1;have b0:=B5.out.cell 0;have hf1':(fi:Int) < (files.length:Int):=hf1;clear hfc hfin hgd hfb hAf HKb;go_upto_region 14 with fail
     clear c1 x1 b0;go_loopw [9,114] (fun v9 kv wq=>∃ k:Nat,k≤fimps.length∧kv=.int .i64 (k:Nat)∧v9=.bool (decide (un∈(fimps.take k).map (·.name)))∧Hid (Below wc.heap.size wc wq)) (fun _ kv _=>fimps.length-(intOf kv).toNat)
     case atStart=>exact⟨0,Nat.zero_le _,rfl,by simp,qK qH⟩
     case round=>
      obtain⟨k,hk,rfl,rfl,HU⟩:=hrel;have hgl:gx < wc.heap.size:=B5.out.lt;by_cases hkl:k < fimps.length
      ·have hkl':(k:Int) < (fimps.length:Int):=by omega
       obtain⟨b2,o2,hA2,hbW,hc⟩:=HSi.out.at_ hkl;have HTk:=qK (show decide (un∈(fimps.take (k+1)).map (·.name))=(decide (un∈(fimps.take k).map (·.name))||decide ((fimps[k]).name=un)) from by
        rw[List.take_succ_eq_append_getElem hkl,List.map_append,List.map_cons,List.map_nil,in_snoc])
       generalize decide (un∈(fimps.take k).map (·.name))=fl at HTk ⊢;generalize fimps[k]=x at hc HTk;obtain⟨xn,xp,xpos⟩:=x;have HBk:=qK (HB6.out.trans (HU.out.mono HB6.out.size));have c0:=zZ0 HBk.out hbW (hc 0 _ rfl);have c1:=zZ0 HBk.out hbW (hc 1 _ rfl);have c2:=zZ0 HBk.out hbW (hc 2 _ rfl);dsimp only[Nat.add_zero] at c0 c1 c2 HTk;have hba:=(Below.refl wr.heap.size wr).alloc qJ (.cells #[.string ⟨xn.toArray⟩,.string ⟨xp.toArray⟩,.int .i64 xpos] 60);have BI:=qK (Blk.new wr 60 #[.string ⟨xn.toArray⟩,.string ⟨xp.toArray⟩,.int .i64 xpos]);have HU1:=qK (HU.out.trans (hba.mono HU.out.size));go_upto_region 16 with fail
       clear c0 c1 c2 hbW hA2 hba hc HU HBk;obtain⟨gi,hgi⟩:∃ gi,gi=wr.heap.size:=⟨_,rfl⟩;rw[←hgi] at BI ⊢;generalize wr.alloc (.cells #[.string ⟨xn.toArray⟩,.string ⟨xp.toArray⟩,.int .i64 xpos] 60)=wi at BI HU1 ⊢;clear hgi;have e0:=BI.out.cell 0;have e2:=(B5.out.keep HU1.out).cell 2;by_cases hx:xn=un
       ·have hx1:(xn == un)=true:=by rw[hx];exact beq_self_eq_true _
        have HT2:=qK (show decide (un∈(fimps.take (k+1)).map (·.name))=true from by rw[HTk.out,decide_eq_true hx];simp);clear hx HTk;cases fl;all_goals
         go_wp2;go_roundw
         case rel=>exact⟨k+1,by omega,by go_num,by rw[HT2.out],HU1⟩
         case measure=>simp[intOf];omega
       ·have hx1:(xn == un)=false:=beq_eq_false_iff_ne.2 hx;have HT2:=qK (show decide (un∈(fimps.take (k+1)).map (·.name))=fl from by rw[HTk.out,decide_eq_false hx];simp);clear hx HTk;cases fl;all_goals
         go_wp2;go_roundw
         case rel=>exact⟨k+1,by omega,by go_num,by rw[HT2.out],HU1⟩
         case measure=>simp[intOf];omega
      ·obtain rfl:k=fimps.length:=by omega
       rw[List.take_length];have HKd:=qK (HKc.out _ _ rfl rfl);have e2:=(B5.out.keep HU.out).cell 2;have cI:=In_any un A4 c4 ns wr ((HS4.out.below (HB5.out.trans (HU.out.mono HB5.out.size))).more (HB5.out.trans (HU.out.mono HB5.out.size)).size) HLn.out;have HB7:=qK (HB5.out.trans (HU.out.mono HB5.out.size));have HE3:=qK ((B5.out.keep HU.out).cell 3);have HE4:=qK ((B5.out.keep HU.out).cell 4);generalize decide (un∈fimps.map (·.name))=im at HKd ⊢;generalize decide (un∈ns)=kn at cI HKd;clear HKc HU;go_upto_region 18 with fail
       go_upto_region 19 with (go_at_call 30;refine cI.mono ?_;rintro e w9 ⟨rfl,rfl⟩)
       clear cI e2;have e3:=HE3.out;have e4:=HE4.out;rcases HKd.out with ⟨rfl,hd,hkn⟩ | ⟨rfl,hd,hkn⟩ | ⟨rfl,rfl,rfl,rfl⟩ | ⟨rfl,rfl,rfl,rfl⟩ | ⟨n1,n2,n4,n0,rfl⟩
       ·exact vO
       ·exact vO
       ·exact xO
       ·exact xO
       ·have m1:(uk == 1)=false:=beq_eq_false_iff_ne.2 n1;have m2:(uk == 2)=false:=beq_eq_false_iff_ne.2 n2;have m4:(uk == 4)=false:=beq_eq_false_iff_ne.2 n4;have m0:(uk == 0)=false:=beq_eq_false_iff_ne.2 n0;clear n1 n2 n4 n0;go_wp2;go_roundw
        case rel=>exact⟨i+1,by omega,by go_num,HB7⟩
        case measure=>simp[intOf];omega
    ·obtain rfl:i=us.length:=by omega
     go_wp2_with fail
     refine(yZ0 wr (HG4.out.keep HB.out)).mono ?_;rintro e w5 ⟨rfl,hb5⟩;have HF:=qK (HW.out.trans ((HB4.out.trans ((HB.out.trans (hb5.mono HB.out.size)).mono HB4.out.size)).mono HW.out.size));clear hb5;go_wp2;go_ret;exact⟨rfl,HF.out⟩
end Go.Proofs.YtdgehhgjgifikaaGreatDoor
