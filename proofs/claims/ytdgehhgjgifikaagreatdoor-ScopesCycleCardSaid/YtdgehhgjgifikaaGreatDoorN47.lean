/- What the claim needs of:WCyc. -/
import Derived.Test.YtdgehhgjgifikaaGreatDoorN46
import Derived.Test.YtdgehhgjgifikaaGreatDoorN5
import Derived.Deep.RegionHeld3
import Derived.BigQuiet
namespace Go.Proofs.YtdgehhgjgifikaaGreatDoor.lawCyc
open Go.RowKit Go.Sort
theorem lab_sl:∀ k:Fin 26,(⟨#[97,98,99,100,101,102,103,104,105,106,107,108,109,110,111,112,113,114,115,116,117,118,119,120,121,122]⟩:ByteArray).extract k.val (k.val+1)=⟨(labC k.val).toArray⟩:=by decide +kernel
theorem yB2 (k:Nat)(h:k < 26):(⟨#[97,98,99,100,101,102,103,104,105,106,107,108,109,110,111,112,113,114,115,116,117,118,119,120,121,122]⟩:ByteArray).extract k (k+1)=⟨(labC k).toArray⟩:=lab_sl ⟨k,h⟩
set_option maxRecDepth 100000 in
theorem zJ6 {Q:Exit→Act→World→Prop}{W:World}{fs:List Fact}(aa ab ac ad ae af ag ah ai aj ak al am an ao ap aq ar au av aw ax ay az aA aB aC aD aE aF aG aH aI aJ aK aL aM aN aO aP aQ aR aS aT aU aV aW aX aY aZ a0 a1 a2 a3 a4 a5 a6 a7 a8 a9 ba bb bc bd be bf bg bh bi bj bk bl bm bn bo bp bq br bs bt bu bv bw bx bz bA bB bC bD bE bF bG bH bI bJ bK bL bM bN bO bP bQ bR bS bT bU bV bW bX bY bZ b0 b1 b2 b3 b4 b5 b6 b7 b8 b9 ca cb cc cd ce cf cg ch ci cj ck cl cm cn co cp cq cr cs ct cu cv cw cx cy cz cA cB cC cD cE cF cG cH cI cJ cK cL cM cN cO cP cQ cR cS cT cU cV cW cX cY cZ c0 c1 c2 c3 c4 c5 c6 c7 c8 c9 da:Value)(h:Q .normal (Act.mk #[aa,ab,ac,ad,da,af,ag,ah,ai,aj,ak,al,am,an,ao,ap,aq,ar,au,av,aw,ax,ay,az,aA,aB,aC,aD,aE,aF,aG,aH,aI,aJ,aK,aL,aM,aN,aO,aP,aQ,aR,aS,aT,aU,aV,aW,aX,aY,aZ,a0,a1,a2,a3,a4,a5,a6,a7,a8,a9,ba,bb,bc,bd,be,bf,bg,bh,bi,bj,bk,bl,bm,bn,bo,bp,bq,br,bs,bt,bu,bv,bw,bx,bz,bA,bB,bC,bD,bE,bF,bG,bH,bI,bJ,bK,bL,bM,bN,bO,bP,bQ,bR,bS,bT,bU,bV,bW,bX,bY,bZ,b0,b1,b2,b3,b4,b5,b6,b7,b8,b9,ca,cb,cc,cd,ce,cf,cg,ch,ci,cj,ck,cl,cm,cn,co,cp,cq,cr,cs,ct,cu,cv,cw,cx,cy,cz,cA,cB,cC,cD,cE,cF,cG,cH,cI,cJ,cX,cY,cZ,c0,c1,c2,c3,c4,c5,c6,c7,c8,c9] []) W):zX1 W (fun A=>Q .normal A W) [] fs (Act.put (Act.put (Act.put (Act.put (Act.put (Act.put (Act.put (Act.put (Act.put (Act.put (Act.put (Act.put (Act.put (Act.put (Act.mk #[aa,ab,ac,ad,ae,af,ag,ah,ai,aj,ak,al,am,an,ao,ap,aq,ar,au,av,aw,ax,ay,az,aA,aB,aC,aD,aE,aF,aG,aH,aI,aJ,aK,aL,aM,aN,aO,aP,aQ,aR,aS,aT,aU,aV,aW,aX,aY,aZ,a0,a1,a2,a3,a4,a5,a6,a7,a8,a9,ba,bb,bc,bd,be,bf,bg,bh,bi,bj,bk,bl,bm,bn,bo,bp,bq,br,bs,bt,bu,bv,bw,bx,bz,bA,bB,bC,bD,bE,bF,bG,bH,bI,bJ,bK,bL,bM,bN,bO,bP,bQ,bR,bS,bT,bU,bV,bW,bX,bY,bZ,b0,b1,b2,b3,b4,b5,b6,b7,b8,b9,ca,cb,cc,cd,ce,cf,cg,ch,ci,cj,ck,cl,cm,cn,co,cp,cq,cr,cs,ct,cu,cv,cw,cx,cy,cz,cA,cB,cC,cD,cE,cF,cG,cH,cI,cJ,cK,cL,cM,cN,cO,cP,cQ,cR,cS,cT,cU,cV,cW] []) (some 157) cX) (some 158) cY) (some 159) cZ) (some 160) c0) (some 161) c1) (some 162) c2) (some 163) c3) (some 164) c4) (some 165) c5) (some 166) c6) (some 167) c7) (some 168) c8) (some 169) c9) (some 4) da):=
 zM2 (by kernel_rfl) h
set_option maxRecDepth 100000 in
set_option maxHeartbeats 16000000 in
theorem walk (n tg:Nat)(w:World)(hn:n < 256)(ht:tg < 256)(_hl:True)(hG:Glob w) :
  Calls Tryz.prog 11 #[.int .u8 (n:Nat),.int .u8 (tg:Nat)] w fun e w'=>e=.returned (.bool true)∧Below w.heap.size w w':=by
 have HG:=Lib.hid hG
 clear hG _hl
 by_cases h1:1≤n
 ·by_cases h26:n≤26
  ·have i1:¬ (n:Int) < 1:=by omega
   have i26:¬ (26:Int) < (n:Int):=by omega
   go_enter Tryz.func11,Tryz.ntmps11
   go_wp2
   go_loopw [6,7] (fun lv iv wq=>∃ (k:Nat) (l:List DA) (A:Option Addr) (c:Nat),k≤n∧iv=.int .i64 (k:Nat)∧lv=.slice A k c∧Hid (CyR w.heap.size n tg k (.slice A k c) l wq)∧Hid (Below w.heap.size w wq)) (fun _ iv _=>n-(intOf iv).toNat)
   case atStart=>exact⟨0,[],none,0,Nat.zero_le _,rfl,rfl,Lib.hid (CyR.nil_ _ _ _ _),Lib.hid (Below.refl _ _)⟩
   case round=>
    obtain⟨k,l,A,c,hk,rfl,rfl,Ri,Bi⟩:=hrel
    by_cases hlt:k < n
    ·have hlt':(k:Int) < (n:Int):=by omega
     have hk26:k < 26:=by omega
     go_wp2_with fail
     refine(yC8 1 (by decide) wr).mono ?_
     rintro e wa ⟨rfl,hb⟩
     have HBa:=Lib.hid hb
     have hba:=(Below.refl wa.heap.size wa).alloc (Nat.le_refl _) (.cells #[.int .i64 3,.string ⟨#[]⟩,.int .i64 10000,.string ⟨#[]⟩,.string ⟨#[]⟩,.slice none 0 0,.slice none 0 0,.slice none 0 0,.int .i64 0] 67)
     have HB0:=Lib.hid (HBa.out.trans (hba.mono HBa.out.size))
     have HX0:=Lib.hid (Blk.new wa 67 #[.int .i64 3,.string ⟨#[]⟩,.int .i64 10000,.string ⟨#[]⟩,.string ⟨#[]⟩,.slice none 0 0,.slice none 0 0,.slice none 0 0,.int .i64 0])
     clear hb hba
     go_upto_region 9 with fail
     generalize wa.alloc (.cells #[.int .i64 3,.string ⟨#[]⟩,.int .i64 10000,.string ⟨#[]⟩,.string ⟨#[]⟩,.slice none 0 0,.slice none 0 0,.slice none 0 0,.int .i64 0] 67)=wb at HB0 HX0 ⊢
     by_cases hx:k+1 < n
     ·have hx':(k:Int)+1 < (n:Int):=by omega
      go_wp2_with fail
      rw[yB2 (k+1) (by omega)]
      refine(zK5 (labC (k+1)) k wb).mono ?_
      rintro e wc ⟨rfl,hb⟩
      have HX1:=Lib.hid (HX0.out.keep hb)
      have HB1:=Lib.hid (HB0.out.trans (hb.mono HB0.out.size))
      clear hb
      obtain⟨y0,y1,y2,y3,y4,y5,y6,y7,y8⟩:=zZ6 HX1.out
      obtain⟨zf0,zf1,zf2,zf3,zf4,zf5,zf6,zf7,zf8⟩:=zK7 HX1.out
      go_upto_region 13 with fail
      clear y0 zf0 y1 zf1 y2 zf2 y3 zf3 y4 zf4 y5 zf5 y6 zf6 y7 zf7 y8 zf8
      obtain⟨hB8,hK8⟩:=res9 HX1.out (.int .i64 10) (.string ⟨(labC (k+1)).toArray⟩) (.int .i64 0) (.string ⟨#[]⟩) (.string ⟨#[]⟩) (.slice none 0 0) (.slice none 0 0) (.slice none 0 0) (.int .i64 k)
      have HX:=Lib.hid hB8
      have HBX:=Lib.hid (HB1.out.trans (hK8.toBelow HB1.out.size fun b hb e=>by have:=HBa.out.size;omega))
      clear hB8 hK8 HX0 HX1 HB0 HB1
      generalize hwq:(((((((((wc.setCell ⟨wa.heap.size,0,none⟩ _).setCell ⟨wa.heap.size,1,none⟩ _).setCell ⟨wa.heap.size,2,none⟩ _).setCell ⟨wa.heap.size,3,none⟩ _).setCell ⟨wa.heap.size,4,none⟩ _).setCell ⟨wa.heap.size,5,none⟩ _).setCell ⟨wa.heap.size,6,none⟩ _).setCell ⟨wa.heap.size,7,none⟩ _).setCell ⟨wa.heap.size,8,none⟩ _)=wX at HX HBX ⊢
      clear hwq
      have HRX:=Lib.hid (Ri.out.below HBX.out)
      have HBw:=Lib.hid (Bi.out.trans (HBX.out.mono Bi.out.size))
      have HLf:=Lib.hid (show Leaf (nmE (labC (k+1)) k) from .inl ⟨_,_,rfl,by simp[labC,maxLen]⟩)
      have HPx:=Lib.hid (show plE (nmE (labC (k+1)) k)=xC n tg k from by unfold xC;rw[if_pos (show k+1 < n from by omega)];rfl)
      have p0:(0:Int)≤(k:Int):=by omega
      have p1:(k:Int)≤(k:Int)+1:=by omega
      have p2:(k:Int)+1≤26:=by omega
      have p3:=yB2 k hk26
      have p4:IntKind.i64.wrap ((k:Int)+1)=(k:Int)+1:=by simp[IntKind.wrap,IntKind.bits,IntKind.signed];omega
      have p5:(0:Int)≤(k:Int)+1:=by omega
      go_region_held3 (fun W=>W.cell? ⟨wa.heap.size,0,none⟩=some (.int .i64 10)∧W.cell? ⟨wa.heap.size,1,none⟩=some (.string ⟨(labC (k+1)).toArray⟩)∧W.cell? ⟨wa.heap.size,2,none⟩=some (.int .i64 0)∧W.cell? ⟨wa.heap.size,3,none⟩=some (.string ⟨#[]⟩)∧W.cell? ⟨wa.heap.size,4,none⟩=some (.string ⟨#[]⟩)∧W.cell? ⟨wa.heap.size,5,none⟩=some (.slice none 0 0)∧W.cell? ⟨wa.heap.size,6,none⟩=some (.slice none 0 0)∧W.cell? ⟨wa.heap.size,7,none⟩=some (.slice none 0 0)∧W.cell? ⟨wa.heap.size,8,none⟩=some (.int .i64 k))
       (first | (simp;done) | exact zZ6 HX.out | exact zZ6 HX5.out | exact zZ6 (HX5.out.alloc _) | exact zZ6 HX6.out)
       (first | (go_at_call 34;refine(yC9 (labC k) (nmE (labC (k+1)) k) _ (by simp[labC,maxLen]) (HLf.out.ok _ _)).mono ?_;rintro e w5 ⟨Ax,rfl,hS5,hb5⟩;have HQ5:=Lib.hid ((Below.refl wX.heap.size wX).drew.trans hb5);have HX5:=Lib.hid (HX.out.keep HQ5.out);have HR5:=Lib.hid (HRX.out.below HQ5.out);have HS5:=Lib.hid hS5;clear hS5 hb5) | (have hb6':=(Below.refl w5.heap.size w5).alloc (Nat.le_refl _) (.cells #[.int .i64 4,.int .i64 0,.string ⟨(labC k).toArray⟩,.string ⟨#[]⟩,.string ⟨#[]⟩,.slice Ax 1 1,.slice none 0 0,.slice none 0 0,.slice none 0 0,.string ⟨#[]⟩,.int .i64 0] 71);have HR6:=Lib.hid (HR5.out.below hb6');have HS6:=Lib.hid (HS5.out.below hb6');refine zA6 rfl (.tmp 50) (.tmp 58) 56 rfl w.heap.size 71 11 184 yP0 (.slice A k c) k (l.flatMap encD) rfl HR6.out.row _ 1 _ (encD (letD (labC k) Ax (nmE (labC (k+1)) k))) rfl (by decide) (Src.lit _ 11 _ _ 1 rfl) (by simp[encD,letD,Value.oneCell']) (by simp only[maxLen];omega) (by omega) (by have:=HBw.out.size;have:=HQ5.out.size;simp;omega) ?_;intro v' w6 hown6 hgr6 hb6;have HX6:=Lib.hid ((HX5.out.alloc _).grown hgr6 (fun e=>zS1 HR6.out.row (HX5.out.alloc _) (by decide) _ e.symm rfl));have HN6:=Lib.hid (HR6.out.snoc ⟨labC k,Ax,(nmE (labC (k+1)) k),rfl,by simp[labC,maxLen],HLf.out,HS6.out.1,HS6.out.2⟩ HPx.out hown6 hgr6);have HB6:=Lib.hid ((HBw.out.trans (HQ5.out.mono HBw.out.size)).trans ((hb6'.mono (by have:=HBw.out.size;have:=HQ5.out.size;omega)).trans hb6));obtain⟨A6,c6,hv6⟩:=Acc.shape (.inl hown6);subst hv6;clear hown6 hgr6 hb6 hb6'))
      all_goals go_wp2
      all_goals go_roundw
      case rel=>exact⟨k+1,_,A6,c6,by omega,by go_num,rfl,HN6,HB6⟩
      case measure=>simp[intOf];omega
     ·have hx':¬ (k:Int)+1 < (n:Int):=by omega
      by_cases htg:tg < n
      ·have htg':(tg:Int) < (n:Int):=by omega
       have htg26:tg < 26:=by omega
       go_wp2_with fail
       rw[yB2 (tg) (by omega)]
       refine(zK5 (labC (tg)) k wb).mono ?_
       rintro e wc ⟨rfl,hb⟩
       have HX1:=Lib.hid (HX0.out.keep hb)
       have HB1:=Lib.hid (HB0.out.trans (hb.mono HB0.out.size))
       clear hb
       obtain⟨y0,y1,y2,y3,y4,y5,y6,y7,y8⟩:=zZ6 HX1.out
       obtain⟨zf0,zf1,zf2,zf3,zf4,zf5,zf6,zf7,zf8⟩:=zK7 HX1.out
       go_upto_region 13 with fail
       clear y0 zf0 y1 zf1 y2 zf2 y3 zf3 y4 zf4 y5 zf5 y6 zf6 y7 zf7 y8 zf8
       obtain⟨hB8,hK8⟩:=res9 HX1.out (.int .i64 10) (.string ⟨(labC (tg)).toArray⟩) (.int .i64 0) (.string ⟨#[]⟩) (.string ⟨#[]⟩) (.slice none 0 0) (.slice none 0 0) (.slice none 0 0) (.int .i64 k)
       have HX:=Lib.hid hB8
       have HBX:=Lib.hid (HB1.out.trans (hK8.toBelow HB1.out.size fun b hb e=>by have:=HBa.out.size;omega))
       clear hB8 hK8 HX0 HX1 HB0 HB1
       generalize hwq:(((((((((wc.setCell ⟨wa.heap.size,0,none⟩ _).setCell ⟨wa.heap.size,1,none⟩ _).setCell ⟨wa.heap.size,2,none⟩ _).setCell ⟨wa.heap.size,3,none⟩ _).setCell ⟨wa.heap.size,4,none⟩ _).setCell ⟨wa.heap.size,5,none⟩ _).setCell ⟨wa.heap.size,6,none⟩ _).setCell ⟨wa.heap.size,7,none⟩ _).setCell ⟨wa.heap.size,8,none⟩ _)=wX at HX HBX ⊢
       clear hwq
       have HRX:=Lib.hid (Ri.out.below HBX.out)
       have HBw:=Lib.hid (Bi.out.trans (HBX.out.mono Bi.out.size))
       have HLf:=Lib.hid (show Leaf (nmE (labC tg) k) from .inl ⟨_,_,rfl,by simp[labC,maxLen]⟩)
       have HPx:=Lib.hid (show plE (nmE (labC tg) k)=xC n tg k from by unfold xC;rw[if_neg (show ¬ k+1 < n from by omega),if_pos htg];rfl)
       have p0:(0:Int)≤(k:Int):=by omega
       have p1:(k:Int)≤(k:Int)+1:=by omega
       have p2:(k:Int)+1≤26:=by omega
       have p3:=yB2 k hk26
       have p4:IntKind.i64.wrap ((k:Int)+1)=(k:Int)+1:=by simp[IntKind.wrap,IntKind.bits,IntKind.signed];omega
       have p5:(0:Int)≤(k:Int)+1:=by omega
       go_region_held3 (fun W=>W.cell? ⟨wa.heap.size,0,none⟩=some (.int .i64 10)∧W.cell? ⟨wa.heap.size,1,none⟩=some (.string ⟨(labC tg).toArray⟩)∧W.cell? ⟨wa.heap.size,2,none⟩=some (.int .i64 0)∧W.cell? ⟨wa.heap.size,3,none⟩=some (.string ⟨#[]⟩)∧W.cell? ⟨wa.heap.size,4,none⟩=some (.string ⟨#[]⟩)∧W.cell? ⟨wa.heap.size,5,none⟩=some (.slice none 0 0)∧W.cell? ⟨wa.heap.size,6,none⟩=some (.slice none 0 0)∧W.cell? ⟨wa.heap.size,7,none⟩=some (.slice none 0 0)∧W.cell? ⟨wa.heap.size,8,none⟩=some (.int .i64 k))
        (first | (simp;done) | exact zZ6 HX.out | exact zZ6 HX5.out | exact zZ6 (HX5.out.alloc _) | exact zZ6 HX6.out)
        (first | (go_at_call 34;refine(yC9 (labC k) (nmE (labC tg) k) _ (by simp[labC,maxLen]) (HLf.out.ok _ _)).mono ?_;rintro e w5 ⟨Ax,rfl,hS5,hb5⟩;have HQ5:=Lib.hid ((Below.refl wX.heap.size wX).drew.trans hb5);have HX5:=Lib.hid (HX.out.keep HQ5.out);have HR5:=Lib.hid (HRX.out.below HQ5.out);have HS5:=Lib.hid hS5;clear hS5 hb5) | (have hb6':=(Below.refl w5.heap.size w5).alloc (Nat.le_refl _) (.cells #[.int .i64 4,.int .i64 0,.string ⟨(labC k).toArray⟩,.string ⟨#[]⟩,.string ⟨#[]⟩,.slice Ax 1 1,.slice none 0 0,.slice none 0 0,.slice none 0 0,.string ⟨#[]⟩,.int .i64 0] 71);have HR6:=Lib.hid (HR5.out.below hb6');have HS6:=Lib.hid (HS5.out.below hb6');refine zA6 rfl (.tmp 50) (.tmp 58) 56 rfl w.heap.size 71 11 184 yP0 (.slice A k c) k (l.flatMap encD) rfl HR6.out.row _ 1 _ (encD (letD (labC k) Ax (nmE (labC tg) k))) rfl (by decide) (Src.lit _ 11 _ _ 1 rfl) (by simp[encD,letD,Value.oneCell']) (by simp only[maxLen];omega) (by omega) (by have:=HBw.out.size;have:=HQ5.out.size;simp;omega) ?_;intro v' w6 hown6 hgr6 hb6;have HX6:=Lib.hid ((HX5.out.alloc _).grown hgr6 (fun e=>zS1 HR6.out.row (HX5.out.alloc _) (by decide) _ e.symm rfl));have HN6:=Lib.hid (HR6.out.snoc ⟨labC k,Ax,(nmE (labC tg) k),rfl,by simp[labC,maxLen],HLf.out,HS6.out.1,HS6.out.2⟩ HPx.out hown6 hgr6);have HB6:=Lib.hid ((HBw.out.trans (HQ5.out.mono HBw.out.size)).trans ((hb6'.mono (by have:=HBw.out.size;have:=HQ5.out.size;omega)).trans hb6));obtain⟨A6,c6,hv6⟩:=Acc.shape (.inl hown6);subst hv6;clear hown6 hgr6 hb6 hb6'))
       all_goals go_wp2
       all_goals go_roundw
       case rel=>exact⟨k+1,_,A6,c6,by omega,by go_num,rfl,HN6,HB6⟩
       case measure=>simp[intOf];omega
      ·have htg':¬ (tg:Int) < (n:Int):=by omega
       go_upto_region 13 with fail
       have HX:=HX0
       have HBX:=HB0
       clear HX0 HB0
       have HRX:=Lib.hid (Ri.out.below HBX.out)
       have HBw:=Lib.hid (Bi.out.trans (HBX.out.mono Bi.out.size))
       have HLf:=Lib.hid (show Leaf (numE 10000) from .inr ⟨_,rfl⟩)
       have HPx:=Lib.hid (show plE (numE 10000)=xC n tg k from by unfold xC;rw[if_neg (show ¬ k+1 < n from by omega),if_neg htg];rfl)
       have p0:(0:Int)≤(k:Int):=by omega
       have p1:(k:Int)≤(k:Int)+1:=by omega
       have p2:(k:Int)+1≤26:=by omega
       have p3:=yB2 k hk26
       have p4:IntKind.i64.wrap ((k:Int)+1)=(k:Int)+1:=by simp[IntKind.wrap,IntKind.bits,IntKind.signed];omega
       have p5:(0:Int)≤(k:Int)+1:=by omega
       go_region_held3 (fun W=>W.cell? ⟨wa.heap.size,0,none⟩=some (.int .i64 3)∧W.cell? ⟨wa.heap.size,1,none⟩=some (.string ⟨#[]⟩)∧W.cell? ⟨wa.heap.size,2,none⟩=some (.int .i64 10000)∧W.cell? ⟨wa.heap.size,3,none⟩=some (.string ⟨#[]⟩)∧W.cell? ⟨wa.heap.size,4,none⟩=some (.string ⟨#[]⟩)∧W.cell? ⟨wa.heap.size,5,none⟩=some (.slice none 0 0)∧W.cell? ⟨wa.heap.size,6,none⟩=some (.slice none 0 0)∧W.cell? ⟨wa.heap.size,7,none⟩=some (.slice none 0 0)∧W.cell? ⟨wa.heap.size,8,none⟩=some (.int .i64 0))
        (first | (simp;done) | exact zZ6 HX.out | exact zZ6 HX5.out | exact zZ6 (HX5.out.alloc _) | exact zZ6 HX6.out)
        (first | (go_at_call 34;refine(yC9 (labC k) (numE 10000) _ (by simp[labC,maxLen]) (HLf.out.ok _ _)).mono ?_;rintro e w5 ⟨Ax,rfl,hS5,hb5⟩;have HQ5:=Lib.hid ((Below.refl wb.heap.size wb).drew.trans hb5);have HX5:=Lib.hid (HX.out.keep HQ5.out);have HR5:=Lib.hid (HRX.out.below HQ5.out);have HS5:=Lib.hid hS5;clear hS5 hb5) | (have hb6':=(Below.refl w5.heap.size w5).alloc (Nat.le_refl _) (.cells #[.int .i64 4,.int .i64 0,.string ⟨(labC k).toArray⟩,.string ⟨#[]⟩,.string ⟨#[]⟩,.slice Ax 1 1,.slice none 0 0,.slice none 0 0,.slice none 0 0,.string ⟨#[]⟩,.int .i64 0] 71);have HR6:=Lib.hid (HR5.out.below hb6');have HS6:=Lib.hid (HS5.out.below hb6');refine zA6 rfl (.tmp 50) (.tmp 58) 56 rfl w.heap.size 71 11 184 yP0 (.slice A k c) k (l.flatMap encD) rfl HR6.out.row _ 1 _ (encD (letD (labC k) Ax (numE 10000))) rfl (by decide) (Src.lit _ 11 _ _ 1 rfl) (by simp[encD,letD,Value.oneCell']) (by simp only[maxLen];omega) (by omega) (by have:=HBw.out.size;have:=HQ5.out.size;simp;omega) ?_;intro v' w6 hown6 hgr6 hb6;have HX6:=Lib.hid ((HX5.out.alloc _).grown hgr6 (fun e=>zS1 HR6.out.row (HX5.out.alloc _) (by decide) _ e.symm rfl));have HN6:=Lib.hid (HR6.out.snoc ⟨labC k,Ax,(numE 10000),rfl,by simp[labC,maxLen],HLf.out,HS6.out.1,HS6.out.2⟩ HPx.out hown6 hgr6);have HB6:=Lib.hid ((HBw.out.trans (HQ5.out.mono HBw.out.size)).trans ((hb6'.mono (by have:=HBw.out.size;have:=HQ5.out.size;omega)).trans hb6));obtain⟨A6,c6,hv6⟩:=Acc.shape (.inl hown6);subst hv6;clear hown6 hgr6 hb6 hb6'))
       all_goals go_wp2
       all_goals go_roundw
       case rel=>exact⟨k+1,_,A6,c6,by omega,by go_num,rfl,HN6,HB6⟩
       case measure=>simp[intOf];omega
    ·have hkn:k=n:=by omega
     subst hkn
     have hlt':¬ (k:Int) < (k:Int):=by omega
     obtain⟨A1,c1,e1,hsl,hok⟩:=Ri.out.sl h26
     have hlen:=Ri.out.len
     rw[hlen] at e1
     injection e1 with e1 _ e2
     subst e1 e2
     have hpk:=yS8 A c l wr hsl hok
     rw[hlen] at hpk
     have hpl:=Ri.out.pl
     have HP:=Lib.hid hpk
     clear hpk hsl hok
     have HPl:=Lib.hid (show ∀ A',plP (pkA A' A c l)=cyP k tg from fun A'=>by
      show (⟨[],[⟨[],[],plDs l,[]⟩]⟩:Pk)=_
      rw[hpl]
      rfl)
     have HPt:=Lib.hid (show PatDs (RxOk rxT) (plDs l) from by rw[hpl];exact pat_C k tg _)
     clear hpl hlen
     go_wp2_with fail
     refine HP.out.mono ?_
     rintro e w5 ⟨A',rfl,hOk,_,hb⟩
     have HB5:=Lib.hid (Bi.out.trans (hb.mono Bi.out.size))
     have HR:=Lib.hid (yX8 rxT (pkA A' A c l) w5 ⟨hOk,by rw[HPl.out];exact(yR1 h26).2⟩ (fun f hf=>by rw[List.mem_singleton.1 hf];exact HPt.out) (HG.out.keep HB5.out))
     clear hOk hb HP
     go_wp2_with fail
     refine HR.out.mono ?_
     rintro e w6 ⟨hb6,q,err,rfl,hq,hres,hp0,hpe⟩
     clear hp0 hpe
     rw[HPl.out] at hres
     have hcy:=cyc_res h1 h26 hres
     have HB6:=Lib.hid (HB5.out.trans (hb6.mono HB5.out.size))
     have HQ:=Lib.hid hq
     have hb7:=(Below.refl w6.heap.size w6).alloc (Nat.le_refl _) (.cells #[.string ⟨q.path.toArray⟩,.slice q.A q.files.length q.c] 24)
     have HB7:=Lib.hid (HB6.out.trans (hb7.mono HB6.out.size))
     have HX7:=Lib.hid (Blk.new w6 24 #[.string ⟨q.path.toArray⟩,.slice q.A q.files.length q.c])
     have HQ7:=Lib.hid (hq.keep hb7)
     clear hb6 hq hres hb7 HR HPl HPt Ri Bi HB5 HB6 HQ
     rcases hcy with ⟨htg,rfl⟩ | ⟨htg,h16,rfl⟩ | ⟨htg,h16,rfl,hout⟩
     ·have htg':(tg:Int) < (k:Int):=by omega
      go_upto_region 15 with fail
      generalize w6.alloc (.cells #[.string ⟨q.path.toArray⟩,.slice q.A q.files.length q.c] 24)=w7 at HB7 HX7 HQ7 ⊢
      go_wp2_with fail
      refine(zS2 w7 (HG.out.keep HB7.out)).mono ?_
      rintro e w8 ⟨rfl,hb⟩
      have HB8:=Lib.hid (HB7.out.trans (hb.mono HB7.out.size))
      clear hb
      go_wp2
      go_ret
      exact⟨rfl,HB8.out⟩
     ·have htg':¬ (tg:Int) < (k:Int):=by omega
      have h16':(16:Int) < (k:Int)+1:=by omega
      go_upto_region 15 with fail
      generalize w6.alloc (.cells #[.string ⟨q.path.toArray⟩,.slice q.A q.files.length q.c] 24)=w7 at HB7 HX7 HQ7 ⊢
      go_wp2_with fail
      refine(zS2 w7 (HG.out.keep HB7.out)).mono ?_
      rintro e w8 ⟨rfl,hb⟩
      have HB8:=Lib.hid (HB7.out.trans (hb.mono HB7.out.size))
      clear hb
      go_wp2
      go_ret
      exact⟨rfl,HB8.out⟩
     ·have htg':¬ (tg:Int) < (k:Int):=by omega
      have h16':¬ (16:Int) < (k:Int)+1:=by omega
      go_upto_region 15 with fail
      generalize w6.alloc (.cells #[.string ⟨q.path.toArray⟩,.slice q.A q.files.length q.c] 24)=w7 at HB7 HX7 HQ7 ⊢
      obtain⟨hq1,bq,oq,cq,bd,od,Ax,cx,hqA,hbq,q2,hbd,q5,hX⟩:=got_C HQ7.out.ok h1 hout
      have HXA:=Lib.hid hX
      have p1:=HX7.out.cell 1
      have q0:w7.cell? ⟨w6.heap.size,1,none⟩=some (.slice (some ⟨bq,oq,none⟩) 1 q.c):=by
       rw[p1,hqA,hq1]
       rfl
      clear p1 hX hout
      go_upto_region 22 with fail
      clear q0 q2 q5
      go_wp2
      have HRc:=HXA
      have HBc:=HB7
      go_loopw [11,12] (fun xv iv wq=>∃ (i:Nat) (A:Option Addr) (c:Nat),1≤i∧i≤k∧iv=.int .i64 (i:Nat)∧xv=.slice A 1 c∧Hid (XAt wq k i A)∧Hid (Below w.heap.size w wq)) (fun _ iv _=>k-(intOf iv).toNat)
      case atStart=>exact⟨1,_,_,Nat.le_refl _,h1,rfl,rfl,HRc,HBc⟩
      case round=>
       clear HRc HBc HXA
       obtain⟨i,A,c,hi1,hik,rfl,rfl,XA,Bi⟩:=hrel
       by_cases hlt:i < k
       ·have hlti:(i:Int) < (k:Int):=by omega
        obtain⟨b,off,A2,c2,rfl,hbl,k0,k1,k2,k3,k5,hX2⟩:=xat_step XA.out hi1 hlt
        have HX2:=Lib.hid hX2
        clear hX2
        have p3:=yB2 i (by omega)
        have p0:(0:Int)≤(i:Int):=by omega
        have p1:(i:Int)≤(i:Int)+1:=by omega
        have p2:(i:Int)+1≤26:=by omega
        have p4:IntKind.i64.wrap ((i:Int)+1)=(i:Int)+1:=by simp[IntKind.wrap,IntKind.bits,IntKind.signed];omega
        have p5:(0:Int)≤(i:Int)+1:=by omega
        go_wp2
        go_quiet (fail)
        go_wp2
        go_roundw
        case rel=>exact⟨i+1,A2,c2,by omega,by omega,by go_num,rfl,Lib.hid (HX2.out.below ((Below.refl _ _).drewN _)),Lib.hid (Bi.out.drewN _)⟩
        case measure=>simp[intOf];omega
       ·have hik2:i=k:=by omega
        subst hik2
        have hlti:¬ (i:Int) < (i:Int):=by omega
        obtain⟨bx,ox,As,Ad,At,cs,cd,ct,rfl,hbx,hcx⟩:=xat_end XA.out
        have kx0:wr.cell? ⟨bx,ox,none⟩=some (.int .i64 3):=hcx 0 _ rfl
        have kx1:=hcx 1 _ rfl
        have kx2:=hcx 2 _ rfl
        have kx3:=hcx 3 _ rfl
        have kx4:=hcx 4 _ rfl
        have kx5:=hcx 5 _ rfl
        have kx6:=hcx 6 _ rfl
        have kx7:=hcx 7 _ rfl
        have kx8:=hcx 8 _ rfl
        have HBz:=Bi
        clear hcx
        go_upto_region 28 with fail
        apply zY0 (by kernel_rfl) [isv _,isv _,isv _,isv _,isv _,isv _,isv _,isv _,(fun v _=>v=.bool true),isv _,isv _,(fun v _=>v=.bool true),isv _,isv _] wr.heap.size wr (Nat.le_refl _) (Below.refl _ _).drew (by kernel_rfl) (by kernel_rfl) (by kernel_rfl) (And.intro (zZ1 _) (And.intro (zZ1 _) (And.intro (zZ1 _) (And.intro (zZ1 _) (And.intro (zZ1 _) (And.intro (zZ1 _) (And.intro (zZ1 _) (And.intro (zZ1 _) (And.intro (fun _ _ _ h _=>h) (And.intro (zZ1 _) (And.intro (zZ1 _) (And.intro (fun _ _ _ h _=>h) (And.intro (zZ1 _) (And.intro (zZ1 _) trivial)))))))))))))) ?steps (by rfl) ?fin
        case steps=>
         refine(And.intro ?o0 (And.intro ?o1 (And.intro ?o2 (And.intro ?o3 (And.intro ?o4 (And.intro ?o5 (And.intro ?o6 (And.intro ?o7 (And.intro ?o8 (And.intro ?o9 (And.intro ?o10 (And.intro ?o11 (And.intro ?o12 (And.intro ?o13 trivial))))))))))))))
         case o0=>
          intro AA W KK QQ hB hs hd hl hk
          have sl11:=hs 11 _ (by kernel_rfl) rfl
          clear hs hd hl
          go_simp
          exact hk _ _ rfl (Below.refl _ _)
         case o1=>
          intro AA W KK QQ hB hs hd hl hk
          obtain⟨_,sl157,rfl⟩:=hd 0 157 (by kernel_rfl) rfl
          clear hs hd hl
          go_simp
          exact hk _ _ rfl (Below.refl _ _)
         case o2=>
          intro AA W KK QQ hB hs hd hl hk
          obtain⟨_,sl158,rfl⟩:=hd 1 158 (by kernel_rfl) rfl
          clear hs hd hl
          go_simp
          exact hk _ _ rfl (Below.refl _ _)
         case o3=>
          intro AA W KK QQ hB hs hd hl hk
          obtain⟨_,sl159,rfl⟩:=hd 2 159 (by kernel_rfl) rfl
          clear hs hd hl
          go_simp
          exact hk _ _ rfl (Below.refl _ _)
         case o4=>
          intro AA W KK QQ hB hs hd hl hk
          have sl11:=hs 11 _ (by kernel_rfl) rfl
          obtain⟨_,sl160,rfl⟩:=hd 3 160 (by kernel_rfl) rfl
          clear hs hd hl
          refine⟨_,_,rfl,sl160,?_⟩
          first
           | (change Oper.wp _ _ _ _ _ _;go_simp;exact hk _ _ rfl (Below.refl _ _))
           | exact rfl
         case o5=>
          intro AA W KK QQ hB hs hd hl hk
          obtain⟨_,sl160,rfl⟩:=hd 3 160 (by kernel_rfl) rfl
          obtain⟨_,sl161,rfl⟩:=hd 4 161 (by kernel_rfl) rfl
          clear hs hd hl
          refine⟨_,_,rfl,sl160,?_⟩
          first
           | (change Oper.wp _ _ _ _ _ _;go_simp;exact hk _ _ rfl (Below.refl _ _))
           | exact rfl
         case o6=>
          intro AA W KK QQ hB hs hd hl hk
          obtain⟨_,sl160,rfl⟩:=hd 3 160 (by kernel_rfl) rfl
          obtain⟨_,sl162,rfl⟩:=hd 5 162 (by kernel_rfl) rfl
          clear hs hd hl
          have hx0:=hB.cell (p:=⟨bx,ox,none⟩) hbx
          rw[kx0] at hx0
          have hx1:=hB.cell (p:=⟨bx,ox+1,none⟩) hbx
          rw[kx1] at hx1
          have hx2:=hB.cell (p:=⟨bx,ox+2,none⟩) hbx
          rw[kx2] at hx2
          have hx3:=hB.cell (p:=⟨bx,ox+3,none⟩) hbx
          rw[kx3] at hx3
          have hx4:=hB.cell (p:=⟨bx,ox+4,none⟩) hbx
          rw[kx4] at hx4
          have hx5:=hB.cell (p:=⟨bx,ox+5,none⟩) hbx
          rw[kx5] at hx5
          have hx6:=hB.cell (p:=⟨bx,ox+6,none⟩) hbx
          rw[kx6] at hx6
          have hx7:=hB.cell (p:=⟨bx,ox+7,none⟩) hbx
          rw[kx7] at hx7
          have hx8:=hB.cell (p:=⟨bx,ox+8,none⟩) hbx
          rw[kx8] at hx8
          refine⟨_,_,rfl,sl160,?_⟩
          first
           | (change Oper.wp _ _ _ _ _ _;go_simp;exact hk _ _ rfl (Below.refl _ _))
           | exact rfl
         case o7=>
          intro AA W KK QQ hB hs hd hl hk
          obtain⟨_,sl160,rfl⟩:=hd 3 160 (by kernel_rfl) rfl
          clear hs hd hl
          refine⟨_,_,rfl,sl160,?_⟩
          change Oper.wp _ _ _ _ _ _
          go_simp
          refine(yC8 1 (by decide) W).mono ?_
          rintro e W2 ⟨rfl,hb2⟩
          exact hk _ _ rfl hb2
         case o8=>
          intro AA W KK QQ hB hs hd hl hk
          obtain⟨_,sl160,rfl⟩:=hd 3 160 (by kernel_rfl) rfl
          obtain⟨_,sl163,rfl⟩:=hd 6 163 (by kernel_rfl) rfl
          obtain⟨_,sl164,rfl⟩:=hd 7 164 (by kernel_rfl) rfl
          clear hs hd hl
          refine⟨_,_,rfl,sl160,?_⟩
          change Oper.wp _ _ _ _ _ _
          go_simp
          refine(eqnum 10000 As Ad At none none none cs cd ct 0 0 0 W).mono ?_
          rintro e W2 ⟨rfl,hb2⟩
          exact hk _ _ rfl hb2
         case o9=>
          intro AA W KK QQ hB hs hd hl hk
          obtain⟨_,sl160,rfl⟩:=hd 3 160 (by kernel_rfl) rfl
          obtain⟨_,sl165,rfl⟩:=hd 8 165 (by kernel_rfl) rfl
          clear hs hd hl
          go_simp
          exact hk _ _ rfl (Below.refl _ _)
         case o10=>
          intro AA W KK QQ hB hs hd hl hk
          obtain⟨_,sl166,rfl⟩:=hd 9 166 (by kernel_rfl) rfl
          clear hs hd hl
          go_simp
          exact hk _ _ rfl (Below.refl _ _)
         case o11=>
          intro AA W KK QQ hB hs hd hl hk
          obtain⟨_,sl167,rfl⟩:=hd 10 167 (by kernel_rfl) rfl
          clear hs hd hl
          refine⟨_,_,rfl,sl167,?_⟩
          change Oper.wp _ _ _ _ _ _
          go_simp
          refine(zS2 W (HG.out.keep (HBz.out.trans (hB.mono HBz.out.size)))).mono ?_
          rintro e W2 ⟨rfl,hb2⟩
          exact hk _ _ rfl hb2
         case o12=>
          intro AA W KK QQ hB hs hd hl hk
          obtain⟨_,sl167,rfl⟩:=hd 10 167 (by kernel_rfl) rfl
          obtain⟨_,sl168,rfl⟩:=hd 11 168 (by kernel_rfl) rfl
          clear hs hd hl
          go_simp
          exact hk _ _ rfl (Below.refl _ _)
         case o13=>
          intro AA W KK QQ hB hs hd hl hk
          obtain⟨_,sl169,rfl⟩:=hd 12 169 (by kernel_rfl) rfl
          clear hs hd hl
          go_simp
          exact hk _ _ rfl (Below.refl _ _)
        case fin=>
         intro wz hB
         refine zZ0 157 rfl ?_
         refine zZ0 158 rfl ?_
         refine zZ0 159 rfl ?_
         refine zZ0 160 rfl ?_
         refine zZ0 161 rfl ?_
         refine zZ0 162 rfl ?_
         refine zZ0 163 rfl ?_
         refine zZ0 164 rfl ?_
         refine zZ9 165 rfl ?_
         rintro _ rfl
         refine zZ0 166 rfl ?_
         refine zZ0 167 rfl ?_
         refine zZ9 168 rfl ?_
         rintro _ rfl
         refine zZ0 169 rfl ?_
         refine zZ0 4 rfl ?_
         refine zJ6 _ _ _ _ _ _ _ _ _ _ _ _ _ _ _ _ _ _ _ _ _ _ _ _ _ _ _ _ _ _ _ _ _ _ _ _ _ _ _ _ _ _ _ _ _ _ _ _ _ _ _ _ _ _ _ _ _ _ _ _ _ _ _ _ _ _ _ _ _ _ _ _ _ _ _ _ _ _ _ _ _ _ _ _ _ _ _ _ _ _ _ _ _ _ _ _ _ _ _ _ _ _ _ _ _ _ _ _ _ _ _ _ _ _ _ _ _ _ _ _ _ _ _ _ _ _ _ _ _ _ _ _ _ _ _ _ _ _ _ _ _ _ _ _ _ _ _ _ _ _ _ _ _ _ _ _ _ _ _ _ _ _ _ _ _ _ _ _ _ _ _ _ _ _ _ _ _ _ _ _ _ _ _ _ ?_
         have HR:=Lib.hid (HBz.out.trans (hB.mono HBz.out.size))
         clear hB
         go_wp2
         refine bodyPost_ret (v:=.bool true) (by simp[results,Tryz.results11,go_sem]) rfl ⟨rfl,HR.out⟩
  ·have i1:¬ (n:Int) < 1:=by omega
   have i26:(26:Int) < (n:Int):=by omega
   go_enter Tryz.func11,Tryz.ntmps11
   go_wp2_with fail
   refine(zS2 w HG.out).mono ?_
   rintro e w1 ⟨rfl,hb⟩
   have HB:=Lib.hid hb
   clear hb
   go_wp2
   go_ret
   exact⟨rfl,HB.out⟩
 ·have i1:(n:Int) < 1:=by omega
  go_enter Tryz.func11,Tryz.ntmps11
  go_wp2_with fail
  refine(zS2 w HG.out).mono ?_
  rintro e w1 ⟨rfl,hb⟩
  have HB:=Lib.hid hb
  clear hb
  go_wp2
  go_ret
  exact⟨rfl,HB.out⟩
end Go.Proofs.YtdgehhgjgifikaaGreatDoor.lawCyc
