/- What the claim needs of:YF TM. -/
import Derived.Test.YtdgehhgjgifikaaGreatDoorK5
import Derived.Test.YtdgehhgjgifikaaGreatDoorK1
namespace Go.Proofs.YtdgehhgjgifikaaGreatDoor
open Go.RowKit
theorem posC {w:World}{g:Nat}{ty:TypeId}{v0 v1 v2 v3:Value}(h:Blk w g ty #[v0,v1,v2,v3]):w.cell? ⟨g,0,none⟩=some v0∧w.cell? ⟨g,1,none⟩=some v1∧w.cell? ⟨g,2,none⟩=some v2∧w.cell? ⟨g,3,none⟩=some v3:=⟨h.cell 0,h.cell 1,h.cell 2,h.cell 3⟩
theorem Glob.keepK {w w':World}{g:Nat}{wr dp:Bool}(h:Glob w)(hC:CkAt w g wr dp)(hk:Kp (· = g) w w'):Glob w':=by
 obtain⟨m,hm⟩:=h;refine⟨m,(hk.cell (zF3 hm) ?_).trans hm⟩;rintro rfl;rw[hC.c0] at hm;cases hm
structure OwnSt (w:World)(g:Nat)(X dp:Bool)(E P:Array Value)(At:Option Addr)(tail:List Tx)(wx:World):Prop where
 hk:Kp (· = g) w wx
 hc:CkAt wx g X dp
 he:Blk wx w.heap.size 67 E
 hp:Blk wx (w.heap.size+1) 241 P
 hs:Sl wx w.heap.size 1 encS At tail
 hg:Glob wx
section
variable {w wx wy:World}{g:Nat}{X Y dp dp':Bool}{E P:Array Value}{At:Option Addr}{tail:List Tx}
theorem OwnSt.ne (h:OwnSt w g X dp E P At tail wx):w.heap.size≠g:=fun e=>by
 have h1:=h.hc;unfold CkAt at h1;rw[←e] at h1;have:=(h.he.inj h1).1;revert this;decide
theorem OwnSt.ne1 (h:OwnSt w g X dp E P At tail wx):w.heap.size+1≠g:=fun e=>by
 have h1:=h.hc;unfold CkAt at h1;rw[←e] at h1;have:=(h.hp.inj h1).1;revert this;decide
theorem OwnSt.below (h:OwnSt w g X dp E P At tail wx)(hb:Below wx.heap.size wx wy):OwnSt w g X dp E P At tail wy:=
 ⟨h.hk.below hb,h.hc.keep hb,h.he.keep hb,h.hp.keep hb,h.hs.below (hb.mono h.hk.size),h.hg.keep hb⟩
theorem OwnSt.step (h:OwnSt w g X dp E P At tail wx)(hn:tail=[]∨∀ a,At=some a→a.block≠g)(hk:Kp (· = g) wx wy)(hc:CkAt wy g Y dp'):OwnSt w g Y dp' E P At tail wy:=
 ⟨h.hk.trans hk,hc,hk.blk h.he h.ne,hk.blk h.hp h.ne1,(by
  rcases hn with rfl | hn
  ·exact Sl.nil_
  ·exact hk.sl h.hs h.hk.size (fun b hb=>by
    cases At with
    | none=>cases hb
    | some a=>
      injection hb with hb
      subst hb;exact hn a rfl)),h.hg.keepK h.hc hk⟩
theorem yT2 {B:Nat}{α:Type}{k:Nat}{enc:α→List Value}{l:List α}(h:Sl w B k enc At l)(hg:B≤g):l=[]∨∀ a,At=some a→a.block≠g:=by
 rcases h with h | ⟨b,off,rfl,hb,_⟩
 ·exact .inl h
 ·exact .inr fun a ha=>by
   injection ha with ha
   subst ha;show b≠g;omega
theorem OwnSt.cast (h:OwnSt w g X dp E P At tail wx)(e:X=Y):OwnSt w g Y dp E P At tail wx:=e▸h
end
def kOk (k:Int):Bool:=decide (1≤k)&&decide (k≤22)
def isS (k:Int):Bool:=decide (k=13)||decide (k=22)
def blkP (k:Int)(m2:Nat)(tail:List Tx):Bool:=(isS k||decide ((m2:Int)+(tail.length:Int)=0))&& !zY2 tail
def numP (k n:Int):Bool:=if k=2∨k=14 then decide (n=0)||decide (n=1) else if k=3 then decide (0≤n)&&(decide (-1000000000000000≤n)&&decide (n≤1000000000000000)) else decide (n=0)
def nmP (k:Int)(a b:Tx):Bool:=if k=15 then yY7 a b else decide (a=[]∧b=[])
def mkP (k:Int)(io il:Bool):Bool:=(io||(k != 18))&&(il||(k != 15))
def cjP (k:Int)(cj:Bool):Bool:=(cj||(k != 13))&&(!cj||(k != 22))
theorem xY1 (n:Int)(w:World):Calls Tryz.prog 205 #[.int .i64 n] w fun e w'=>e=.returned (.bool (decide ((-1000000000000000:Int)≤n)&&decide (n≤1000000000000000)))∧w=w':=by
 by_cases h1:(-1000000000000000:Int)≤n <;> by_cases h2:n≤1000000000000000
 all_goals
  go_enter Tryz.func205,Tryz.ntmps205
  go_wp2;go_ret;exact⟨zL9 (by simp[h1,h2];try omega),rfl⟩
def ownQ (k:Int)(t:Tx)(n:Int)(a b:Tx)(m m2:Nat)(tail:List Tx)(cj io il:Bool):Bool:=
 kOk k&&yU9 k n m&&yT0 k t&&blkP k m2 tail&&(if k=10 then zY7 t&&refP n a b m else numP k n&&nmP k a b&&mkP k io il&&cjP k cj)
set_option maxRecDepth 100000 in
theorem zT9 {o:Oper}{P:Program}{Q:Exit→Act→World→Prop}{K:Act→World→Prop}{W:World}{fs:List Fact}{G:Act→Prop}{aa ab ac ad ae af ag ah ai aj ak al am an ao ap aq ar au av aw ax ay az aA aB aC aD aE aF aG aH aI aJ aK aL aM aN aO aP aQ aR aS aT aU aV aW aX aY aZ a0 a1 a2 a3 a4 a5 a6 a7 a8 a9 ba bb bc bd be bf bg bh bi bj bk bl bm bn bo bp bq br bs bt bu bv bw bx bz bA bB bC bD bE bF bG bH bI bJ bK bL bM bN bO bP bQ bR bS bT bU bV bW bX bY bZ b0 b1 b2 b3 b4 b5 b6 b7 b8 b9 ca cb cc cd ce cf cg ch ci cj ck cl cm cn co cp cq cr cs ct cu cv cw cx:Value}(hG:∀ A,o.wp P A W K Q→G A)(h:o.wp P (Act.mk #[aa,ab,ac,ad,ae,af,ag,ah,ai,aj,ak,al,am,an,ao,ap,aq,ar,au,av,aw,ax,ay,az,aA,aB,aC,aD,aE,aF,aG,aH,aI,aJ,aK,aL,aM,aN,aO,aP,aQ,aR,aS,aT,aU,aV,aW,aX,aY,aZ,a0,a1,a2,a3,a4,a5,a6,a7,a8,a9,ba,bb,bc,bd,be,bf,bg,bh,bi,bj,bk,bl,bm,bn,bo,bp,bq,br,cq,cr,cs,ct,cu,cv,cw,cx,bB,bC,bD,bE,bF,bG,bH,bI,bJ,bK,bL,bM,bN,bO,bP,bQ,bR,bS,bT,bU,bV,bW,bX,bY,bZ,b0,b1,b2,b3,b4,b5,b6,b7,b8,b9,ca,cb,cc,cd,ce,cf,cg,ch,ci,cj,ck,cl,cm,cn,co,cp] []) W K Q):zY0 W G [] fs (Act.put (Act.put (Act.put (Act.put (Act.put (Act.put (Act.put (Act.put (Act.mk #[aa,ab,ac,ad,ae,af,ag,ah,ai,aj,ak,al,am,an,ao,ap,aq,ar,au,av,aw,ax,ay,az,aA,aB,aC,aD,aE,aF,aG,aH,aI,aJ,aK,aL,aM,aN,aO,aP,aQ,aR,aS,aT,aU,aV,aW,aX,aY,aZ,a0,a1,a2,a3,a4,a5,a6,a7,a8,a9,ba,bb,bc,bd,be,bf,bg,bh,bi,bj,bk,bl,bm,bn,bo,bp,bq,br,bs,bt,bu,bv,bw,bx,bz,bA,bB,bC,bD,bE,bF,bG,bH,bI,bJ,bK,bL,bM,bN,bO,bP,bQ,bR,bS,bT,bU,bV,bW,bX,bY,bZ,b0,b1,b2,b3,b4,b5,b6,b7,b8,b9,ca,cb,cc,cd,ce,cf,cg,ch,ci,cj,ck,cl,cm,cn,co,cp] []) (some 78) cq) (some 79) cr) (some 80) cs) (some 81) ct) (some 82) cu) (some 83) cv) (some 84) cw) (some 85) cx):=
 zV2 qF hG h
set_option maxRecDepth 100000 in
theorem zJ6 {o:Oper}{P:Program}{Q:Exit→Act→World→Prop}{K:Act→World→Prop}{W:World}{fs:List Fact}{G:Act→Prop}{aa ab ac ad ae af ag ah ai aj ak al am an ao ap aq ar au av aw ax ay az aA aB aC aD aE aF aG aH aI aJ aK aL aM aN aO aP aQ aR aS aT aU aV aW aX aY aZ a0 a1 a2 a3 a4 a5 a6 a7 a8 a9 ba bb bc bd be bf bg bh bi bj bk bl bm bn bo bp bq br bs bt bu bv bw bx bz bA bB bC bD bE bF bG bH bI bJ bK bL bM bN bO bP bQ bR bS bT bU bV bW bX bY bZ b0 b1 b2 b3 b4 b5 b6 b7 b8 b9 ca cb cc cd ce cf cg ch ci cj ck cl cm cn co cp cq cr cs ct cu cv cw cx cy cz cA cB cC cD cE cF:Value}(hG:∀ A,o.wp P A W K Q→G A)(h:o.wp P (Act.mk #[aa,ab,ac,ad,ae,af,ag,ah,ai,aj,ak,al,am,an,ao,ap,aq,ar,au,av,aw,ax,ay,az,aA,aB,aC,aD,aE,aF,aG,aH,cq,cr,cs,ct,cu,cv,cw,cx,cy,cz,cA,cB,cC,cD,cE,cF,aY,aZ,a0,a1,a2,a3,a4,a5,a6,a7,a8,a9,ba,bb,bc,bd,be,bf,bg,bh,bi,bj,bk,bl,bm,bn,bo,bp,bq,br,bs,bt,bu,bv,bw,bx,bz,bA,bB,bC,bD,bE,bF,bG,bH,bI,bJ,bK,bL,bM,bN,bO,bP,bQ,bR,bS,bT,bU,bV,bW,bX,bY,bZ,b0,b1,b2,b3,b4,b5,b6,b7,b8,b9,ca,cb,cc,cd,ce,cf,cg,ch,ci,cj,ck,cl,cm,cn,co,cp] []) W K Q):zY0 W G [] fs (Act.put (Act.put (Act.put (Act.put (Act.put (Act.put (Act.put (Act.put (Act.put (Act.put (Act.put (Act.put (Act.put (Act.put (Act.put (Act.put (Act.mk #[aa,ab,ac,ad,ae,af,ag,ah,ai,aj,ak,al,am,an,ao,ap,aq,ar,au,av,aw,ax,ay,az,aA,aB,aC,aD,aE,aF,aG,aH,aI,aJ,aK,aL,aM,aN,aO,aP,aQ,aR,aS,aT,aU,aV,aW,aX,aY,aZ,a0,a1,a2,a3,a4,a5,a6,a7,a8,a9,ba,bb,bc,bd,be,bf,bg,bh,bi,bj,bk,bl,bm,bn,bo,bp,bq,br,bs,bt,bu,bv,bw,bx,bz,bA,bB,bC,bD,bE,bF,bG,bH,bI,bJ,bK,bL,bM,bN,bO,bP,bQ,bR,bS,bT,bU,bV,bW,bX,bY,bZ,b0,b1,b2,b3,b4,b5,b6,b7,b8,b9,ca,cb,cc,cd,ce,cf,cg,ch,ci,cj,ck,cl,cm,cn,co,cp] []) (some 32) cq) (some 33) cr) (some 34) cs) (some 35) ct) (some 36) cu) (some 37) cv) (some 38) cw) (some 39) cx) (some 40) cy) (some 41) cz) (some 42) cA) (some 43) cB) (some 44) cC) (some 45) cD) (some 46) cE) (some 47) cF):=
 zV2 qF hG h
set_option maxRecDepth 100000 in
set_option maxHeartbeats 16000000 in
theorem own_any (g:Nat)(wr acc dp:Bool)(k:Int)(t:Tx)(n:Int)(a b:Tx)(As:Option Addr)(m cs:Nat)(Ad:Option Addr)(m2 cd:Nat)(At:Option Addr)(tail:List Tx)(ct:Nat)(pos:Int)(cj io il:Bool)(lv:Int)(w:World)(hC:CkAt w g (wr|| !acc) dp)(hG:Glob w)(hS:Sl w w.heap.size 1 encS At tail)(hN:tail=[]∨∀ a,At=some a→a.block≠g)(ht:t.length≤maxLen)(ha:a.length≤maxLen)(hb:b.length≤maxLen)(htl:tail.length≤1099511627776)(hm2:m2≤1099511627776) :
  Calls Tryz.prog 186 #[.pointer (some ⟨g,0,none⟩),.agg #[.int .i64 k,.string ⟨t.toArray⟩,.int .i64 n,.string ⟨a.toArray⟩,.string ⟨b.toArray⟩,.slice As m cs,.slice Ad m2 cd,.slice At tail.length ct,.int .i64 pos],.agg #[.bool cj,.bool io,.bool il,.int .i64 lv]] w (zM9 g (wr|| !(acc&&ownQ k t n a b m m2 tail cj io il)) dp w):=by
 obtain⟨Z,hZ⟩:∃ Z,Z=(wr|| !(acc&&ownQ k t n a b m m2 tail cj io il)):=⟨_,rfl⟩;rw[←hZ];have HZ:=qK hZ;have HN:=qK hN;have HT:=qK ht;have HA:=qK ha;have HB:=qK hb;have S0:OwnSt w g (wr|| !acc) dp #[.int .i64 k,.string ⟨t.toArray⟩,.int .i64 n,.string ⟨a.toArray⟩,.string ⟨b.toArray⟩,.slice As m cs,.slice Ad m2 cd,.slice At tail.length ct,.int .i64 pos] #[.bool cj,.bool io,.bool il,.int .i64 lv] At tail ((w.alloc (.cells #[.int .i64 k,.string ⟨t.toArray⟩,.int .i64 n,.string ⟨a.toArray⟩,.string ⟨b.toArray⟩,.slice As m cs,.slice Ad m2 cd,.slice At tail.length ct,.int .i64 pos] 67)).alloc (.cells #[.bool cj,.bool io,.bool il,.int .i64 lv] 241)):=by
  have hb2:Below w.heap.size w ((w.alloc (.cells #[.int .i64 k,.string ⟨t.toArray⟩,.int .i64 n,.string ⟨a.toArray⟩,.string ⟨b.toArray⟩,.slice As m cs,.slice Ad m2 cd,.slice At tail.length ct,.int .i64 pos] 67)).alloc (.cells #[.bool cj,.bool io,.bool il,.int .i64 lv] 241)):=(qH.alloc qJ _).alloc (by simp) _;refine⟨Kp.ofBelow hb2 _,hC.keep hb2,(Blk.new w _ _).alloc _,?_,hS.below hb2,hG.keep hb2⟩;have:=Blk.new (w.alloc (.cells #[.int .i64 k,.string ⟨t.toArray⟩,.int .i64 n,.string ⟨a.toArray⟩,.string ⟨b.toArray⟩,.slice As m cs,.slice Ad m2 cd,.slice At tail.length ct,.int .i64 pos] 67)) 241 #[.bool cj,.bool io,.bool il,.int .i64 lv];rw[World.size_alloc] at this;exact this
 clear hC hG hS hZ hN ht ha hb;go_enter Tryz.func186,Tryz.ntmps186
 go_upto_region 1 with fail
 generalize (w.alloc (.cells #[.int .i64 k,.string ⟨t.toArray⟩,.int .i64 n,.string ⟨a.toArray⟩,.string ⟨b.toArray⟩,.slice As m cs,.slice Ad m2 cd,.slice At tail.length ct,.int .i64 pos] 67)).alloc (.cells #[.bool cj,.bool io,.bool il,.int .i64 lv] 241)=w1 at S0 ⊢;obtain⟨e0,e1,e2,e3,e4,e5,e6,e7,e8⟩:=zZ6 S0.he;obtain⟨p0,p1,p2,p3⟩:=posC S0.hp;go_cut [] from 7 to 17 (fun wx=>OwnSt w g (wr|| !(acc&&kOk k)) dp #[.int .i64 k,.string ⟨t.toArray⟩,.int .i64 n,.string ⟨a.toArray⟩,.string ⟨b.toArray⟩,.slice As m cs,.slice Ad m2 cd,.slice At tail.length ct,.int .i64 pos] #[.bool cj,.bool io,.bool il,.int .i64 lv] At tail wx)
 case first=>
  go_wp2_with (refine(zR4 _ S0.hc).mono ?_;rintro e w2 ⟨rfl,hk,hc⟩;have S1:=(S0.below (qH.alloc qJ _)).step HN.out hk hc;clear hk hc)
  all_goals
   go_meet
   case rel=>exact S1.cast (by unfold kOk;simp[*])
 clear e0 e1 e2 e3 e4 e5 e6 e7 e8 p0 p1 p2 p3;have S1:=hcut;clear hcut S0;obtain⟨e0,e1,e2,e3,e4,e5,e6,e7,e8⟩:=zZ6 S1.he;obtain⟨p0,p1,p2,p3⟩:=posC S1.hp;go_wp2_with fail
 refine(subs_any g wr _ dp k t n a b As m cs Ad m2 cd At tail.length ct pos _ S1.hc S1.hg).mono ?_;rintro e w2 ⟨rfl,hk,hc⟩;have S2:=S1.step HN.out hk hc;clear e0 e1 e2 e3 e4 e5 e6 e7 e8 p0 p1 p2 p3;clear hk hc S1;obtain⟨e0,e1,e2,e3,e4,e5,e6,e7,e8⟩:=zZ6 S2.he;obtain⟨p0,p1,p2,p3⟩:=posC S2.hp;go_wp2_with fail
 refine(text_any g wr _ dp k t n a b As m cs Ad m2 cd At tail.length ct pos _ S2.hc S2.hg HT.out).mono ?_;rintro e w3 ⟨rfl,hk,hc⟩;have S3:=S2.step HN.out hk hc;clear e0 e1 e2 e3 e4 e5 e6 e7 e8 p0 p1 p2 p3;clear hk hc S2;obtain⟨e0,e1,e2,e3,e4,e5,e6,e7,e8⟩:=zZ6 S3.he;obtain⟨p0,p1,p2,p3⟩:=posC S3.hp;go_upto_region 4 with fail
 obtain⟨iS,hiS⟩:∃ iS,iS=isS k:=⟨_,rfl⟩;have HiS:=qK hiS;clear hiS;go_cut [6] from 24 to 31 (fun v6 wx=>v6=.bool iS∧wx=w3)
 case first=>
  cases h13:((k:Int) == 13) <;> cases h22:((k:Int) == 22);all_goals
   go_wp2;go_meet
   case rel=>exact⟨by rw[HiS.out];clear S3 e0 e1 e2 e3 e4 e5 e6 e7 e8 p0 p1 p2 p3;unfold isS;simp_all,rfl⟩
 obtain⟨rfl,rfl⟩:=hcut;obtain⟨rT,hrT⟩:∃ r,r=(iS||decide ((m2:Int)+(tail.length:Int)=0)):=⟨_,rfl⟩;have HrT:=qK hrT;clear hrT;go_upto_region 5 with fail
 go_cut [] from 32 to 48 (fun wx=>OwnSt w g (wr|| !((((acc&&kOk k)&&yU9 k n m)&&yT0 k t)&&blkP k m2 tail)) dp #[.int .i64 k,.string ⟨t.toArray⟩,.int .i64 n,.string ⟨a.toArray⟩,.string ⟨b.toArray⟩,.slice As m cs,.slice Ad m2 cd,.slice At tail.length ct,.int .i64 pos] #[.bool cj,.bool io,.bool il,.int .i64 lv] At tail wx)
 case first=>
  have hz0:w.heap.size < wc.heap.size:=S3.he.lt;have hz1:w.heap.size+1 < wc.heap.size:=S3.hp.lt;have hw0:IntKind.i64.wrap ((m2:Int)+(tail.length:Int))=(m2:Int)+(tail.length:Int):=by rw[IntKind.wrap_i64];omega
  cases iS
  ·cases h0:(((m2:Int)+(tail.length:Int)) == 0)
   ·have HX:=qK (show (false&& !zY2 tail)=blkP k m2 tail from by unfold blkP;rw[←HiS.out,decide_eq_false (beq_eq_false_iff_ne.1 h0)];rfl);apply zZ5 qF [isv _,isv _,isv _,isv _,isv _,isv _,isv _,isv _,isv _,isv _,isv _,isv _,isv _,isv _,isv _,(fun v W=>∃ p:Nat,v=.slice (some ⟨p,0,none⟩) 2 2∧Blk W p 4 #[.bool (false),.bool (!zY2 tail)])] wc.heap.size wc qJ qH.drew qF qF qF qF qF (qC (qC (qC (qC (qC (qC (qC (qC (qC (qC (qC (qC (qC (qC (qC (qA (fun _ _ _ ⟨p,e,h1⟩ hb=>⟨p,e,h1.keep hb⟩) trivial)))))))))))))))) ?steps (by rfl) _ rfl rfl ?fin;case steps=>exact qA (qS 0) (qA (qS 6) (qA (qQ 1 33) (qA (qR 4 2 34) (qA (kG 2 34 3 35) (qA (qP 2 34 4 36) (qA (qR 4 2 34) (qA (kH 2 34 6 38) (qA (qP 2 34 7 39) (qA (qW 2 34 5 37 8 40) (qA (qP 2 34 9 41) (qA (qV 2 34 10 42) (qA (qS 4) (qA (kW 12 44) (qA (jH 13 45) (qA (kQ 11 43 14 46) trivial)))))))))))))))
    case fin=>exact vJ
   ·have HX:=qK (show (true&& !zY2 tail)=blkP k m2 tail from by unfold blkP;rw[←HiS.out,decide_eq_true (beq_iff_eq.1 h0)];rfl);apply zZ5 qF [isv _,isv _,isv _,isv _,isv _,isv _,isv _,isv _,isv _,isv _,isv _,isv _,isv _,isv _,isv _,(fun v W=>∃ p:Nat,v=.slice (some ⟨p,0,none⟩) 2 2∧Blk W p 4 #[.bool (true),.bool (!zY2 tail)])] wc.heap.size wc qJ qH.drew qF qF qF qF qF (qC (qC (qC (qC (qC (qC (qC (qC (qC (qC (qC (qC (qC (qC (qC (qA (fun _ _ _ ⟨p,e,h1⟩ hb=>⟨p,e,h1.keep hb⟩) trivial)))))))))))))))) ?steps (by rfl) _ rfl rfl ?fin;case steps=>exact qA (qS 0) (qA (qS 6) (qA (qQ 1 33) (qA (qR 4 2 34) (qA (kG 2 34 3 35) (qA (qP 2 34 4 36) (qA (qR 4 2 34) (qA (kH 2 34 6 38) (qA (qP 2 34 7 39) (qA (qW 2 34 5 37 8 40) (qA (qP 2 34 9 41) (qA (qV 2 34 10 42) (qA (qS 4) (qA (kW 12 44) (qA (jH 13 45) (qA (kQ 11 43 14 46) trivial)))))))))))))))
    case fin=>exact vJ
  ·have HX:=qK (show (true&& !zY2 tail)=blkP k m2 tail from by unfold blkP;rw[←HiS.out];rfl);apply zZ5 qF [isv _,isv _,isv _,isv _,isv _,isv _,isv _,isv _,isv _,isv _,isv _,isv _,isv _,isv _,isv _,(fun v W=>∃ p:Nat,v=.slice (some ⟨p,0,none⟩) 2 2∧Blk W p 4 #[.bool (true),.bool (!zY2 tail)])] wc.heap.size wc qJ qH.drew qF qF qF qF qF (qC (qC (qC (qC (qC (qC (qC (qC (qC (qC (qC (qC (qC (qC (qC (qA (fun _ _ _ ⟨p,e,h1⟩ hb=>⟨p,e,h1.keep hb⟩) trivial)))))))))))))))) ?steps (by rfl) _ rfl rfl ?fin;case steps=>exact qA (qS 0) (qA (qS 6) (qA (qQ 1 33) (qA (qR 4 2 34) (qA (kG 2 34 3 35) (qA (qP 2 34 4 36) (qA (qR 4 2 34) (qA (kH 2 34 6 38) (qA (qP 2 34 7 39) (qA (qW 2 34 5 37 8 40) (qA (qP 2 34 9 41) (qA (qV 2 34 10 42) (qA (qS 4) (qA (kW 12 44) (qA (jH 13 45) (qA (kQ 11 43 14 46) trivial)))))))))))))))
   case fin=>exact vJ
 clear e0 e1 e2 e3 e4 e5 e6 e7 e8 p0 p1 p2 p3;have S4:=hcut;clear hcut S3;obtain⟨e0,e1,e2,e3,e4,e5,e6,e7,e8⟩:=zZ6 S4.he;obtain⟨p0,p1,p2,p3⟩:=posC S4.hp;cases h10:((k:Int) == 10)
 rotate_left
 ·go_wp2_with fail
  refine(yT1 g wr _ dp k t n a b As m cs Ad m2 cd At tail.length ct pos _ S4.hc S4.hg HT.out).mono ?_;rintro e w5 ⟨rfl,hk,hc⟩;have S5:=S4.step HN.out hk hc;clear hk hc;go_wp2;refine bodyPost_ret (results_none rfl _ _ _) rfl ?_;exact⟨rfl,S5.hk,ck_z S5.hc (by rw[HZ.out];unfold ownQ;rw[if_pos (beq_iff_eq.1 h10)];simp only[Bool.and_assoc])⟩
 go_upto_block 0 with fail
 go_cut [] from 50 to 86 (fun wx=>OwnSt w g (wr|| !(((((acc&&kOk k)&&yU9 k n m)&&yT0 k t)&&blkP k m2 tail)&&numP k n)) dp #[.int .i64 k,.string ⟨t.toArray⟩,.int .i64 n,.string ⟨a.toArray⟩,.string ⟨b.toArray⟩,.slice As m cs,.slice Ad m2 cd,.slice At tail.length ct,.int .i64 pos] #[.bool cj,.bool io,.bool il,.int .i64 lv] At tail wx)
 case first=>
  cases h2:((k:Int) == 2)
  ·cases h14:((k:Int) == 14)
   ·cases h3:((k:Int) == 3)
    ·have HX:=qK (show ((n:Int) == 0)=numP k n from by
      unfold numP;rw[if_neg (by simp only[beq_eq_false_iff_ne,ne_eq] at h2 h14;omega),if_neg (beq_eq_false_iff_ne.1 h3)];rfl)
     go_wp2_with (refine(zR4 _ S4.hc).mono ?_;rintro e w5 ⟨rfl,hk,hc⟩;have S5:=(S4.below (qH.alloc qJ _)).step HN.out hk hc;clear hk hc)
     go_meet
     case rel=>exact S5.cast (by rw[←HX.out])
    ·have hz0:w.heap.size < wc.heap.size:=S4.he.lt;have HX:=qK (show (decide ((0:Int)≤n)&&(decide ((-1000000000000000:Int)≤n)&&decide (n≤1000000000000000)))=numP k n from by
      unfold numP;rw[if_neg (by simp only[beq_eq_false_iff_ne,ne_eq] at h2 h14;omega),if_pos (beq_iff_eq.1 h3)])
     obtain⟨V,hV⟩:∃ V,V=(decide ((-1000000000000000:Int)≤n)&&decide (n≤1000000000000000)):=⟨_,rfl⟩;have cV:=fun W=>xY1 n W;rw[←hV] at cV;have HV:=qK hV;have CV:=qK cV;clear hV cV;go_upto_region 14 with fail
     apply zZ5 qF [isv _,isv _,isv _,isv _,isv _,isv _,isv _,(fun v W=>∃ p:Nat,v=.slice (some ⟨p,0,none⟩) 2 2∧Blk W p 4 #[.bool (decide ((0:Int)≤n)),.bool (V)])] wc.heap.size wc qJ qH.drew qF qF qF qF qF (qC (qC (qC (qC (qC (qC (qC (qA (fun _ _ _ ⟨p,e,h1⟩ hb=>⟨p,e,h1.keep hb⟩) trivial)))))))) ?steps (by rfl) _ rfl rfl ?fin;case steps=>
      refine qA (qS 0) (qA (qS 4) (qA (jY 1 79) (qA (qQ 2 80) (qA (qS 4) (qA (jY 4 82) (qA ?_ ?_))))))
      ·intro AA W KK QQ hB hs hd hl hk;obtain⟨_,sl83,rfl⟩:=hd 5 83 qF rfl;clear hs hd hl;go_simp;refine(CV.out W).mono ?_;rintro e W2 ⟨rfl,rfl⟩;exact hk _ _ rfl qH
      exact qA (kQ 3 81 6 84) trivial
     case fin=>
      intro wf hB GG hGG
      iterate 7 refine qN ?_
      refine zZ4 85 rfl ?_;rintro _ ⟨p,rfl,hP⟩;refine zT9 hGG ?_;go_simp;have Sf:=S4.below hB;refine(xY0 _ _ Sf.hc hP).mono ?_;rintro e w5 ⟨rfl,hk,hc⟩;have S5:=Sf.step HN.out hk hc;go_wp2_with fail
      go_meet
      case rel=>exact S5.cast (by rw[←HX.out,HV.out])
   ·cases hn0:((n:Int) == 0);all_goals cases hn1:((n:Int) == 1)
    all_goals
     go_wp2_with (refine(zR4 _ S4.hc).mono ?_;rintro e w5 ⟨rfl,hk,hc⟩;have S5:=(S4.below (qH.alloc qJ _)).step HN.out hk hc;clear hk hc)
     go_meet
     case rel=>exact S5.cast (by rw[show numP k n=_ from by unfold numP;rw[if_pos (.inr (beq_iff_eq.1 h14))]];simp only[beq_iff_eq,beq_eq_false_iff_ne] at hn0 hn1;simp[hn0,hn1])
  ·cases hn0:((n:Int) == 0);all_goals cases hn1:((n:Int) == 1)
   all_goals
    go_wp2_with (refine(zR4 _ S4.hc).mono ?_;rintro e w5 ⟨rfl,hk,hc⟩;have S5:=(S4.below (qH.alloc qJ _)).step HN.out hk hc;clear hk hc)
    go_meet
    case rel=>exact S5.cast (by rw[show numP k n=_ from by unfold numP;rw[if_pos (.inl (beq_iff_eq.1 h2))]];simp only[beq_iff_eq,beq_eq_false_iff_ne] at hn0 hn1;simp[hn0,hn1])
 clear e0 e1 e2 e3 e4 e5 e6 e7 e8 p0 p1 p2 p3;have S5:=hcut;clear hcut S4;obtain⟨e0,e1,e2,e3,e4,e5,e6,e7,e8⟩:=zZ6 S5.he;obtain⟨p0,p1,p2,p3⟩:=posC S5.hp;go_upto_if 89 with fail
 generalize hb15:((k:Int) == 15)=b15;have H15:=qK hb15;clear hb15;go_cut [] from 90 to 101 (fun wx=>OwnSt w g (wr|| !((((((acc&&kOk k)&&yU9 k n m)&&yT0 k t)&&blkP k m2 tail)&&numP k n)&&nmP k a b)) dp #[.int .i64 k,.string ⟨t.toArray⟩,.int .i64 n,.string ⟨a.toArray⟩,.string ⟨b.toArray⟩,.slice As m cs,.slice Ad m2 cd,.slice At tail.length ct,.int .i64 pos] #[.bool cj,.bool io,.bool il,.int .i64 lv] At tail wx)
 case first=>
  cases b15
  ·go_wp2_with (first
    | (refine(yU3 a b _).mono ?_;rintro e w6 ⟨rfl,hb⟩;have S5b:=S5.below hb;clear hb)
    | (refine(zR4 _ S5b.hc).mono ?_;rintro e w7 ⟨rfl,hk,hc⟩;have S6:=(S5b.below (qH.alloc qJ _)).step HN.out hk hc;clear hk hc))
   all_goals
    go_meet
    case rel=>exact S6.cast (by rw[show nmP k a b=_ from by unfold nmP;rw[if_neg (beq_eq_false_iff_ne.1 H15.out)]];simp)
  ·go_wp2_with (first
    | (refine(yX0 a b _ HA.out HB.out).mono ?_;rintro e w6 ⟨rfl,hb⟩;have S5b:=S5.below hb;clear hb)
    | (refine(zR4 _ S5b.hc).mono ?_;rintro e w7 ⟨rfl,hk,hc⟩;have S6:=(S5b.below (qH.alloc qJ _)).step HN.out hk hc;clear hk hc))
   all_goals
    go_meet
    case rel=>exact S6.cast (by rw[show nmP k a b=_ from by unfold nmP;rw[if_pos (beq_iff_eq.1 H15.out)]])
 clear e0 e1 e2 e3 e4 e5 e6 e7 e8 p0 p1 p2 p3;have S6:=hcut;clear hcut S5;obtain⟨e0,e1,e2,e3,e4,e5,e6,e7,e8⟩:=zZ6 S6.he;obtain⟨p0,p1,p2,p3⟩:=posC S6.hp;go_upto_region 18 with fail
 go_cut [] from 102 to 118 (fun wx=>OwnSt w g (wr|| !(((((((acc&&kOk k)&&yU9 k n m)&&yT0 k t)&&blkP k m2 tail)&&numP k n)&&nmP k a b)&&mkP k io il)) dp #[.int .i64 k,.string ⟨t.toArray⟩,.int .i64 n,.string ⟨a.toArray⟩,.string ⟨b.toArray⟩,.slice As m cs,.slice Ad m2 cd,.slice At tail.length ct,.int .i64 pos] #[.bool cj,.bool io,.bool il,.int .i64 lv] At tail wx)
 case first=>
  cases io <;> cases il;all_goals
   go_wp2_with (refine(must2 _ _ S6.hc).mono ?_;rintro e w7 ⟨rfl,hk,hc⟩;have S7:=(S6.below (qH.alloc qJ _)).step HN.out hk hc;clear hk hc)
   go_meet
   case rel=>exact S7.cast (by unfold mkP;simp)
 clear e0 e1 e2 e3 e4 e5 e6 e7 e8 p0 p1 p2 p3;have S7:=hcut;clear hcut S6;obtain⟨e0,e1,e2,e3,e4,e5,e6,e7,e8⟩:=zZ6 S7.he;obtain⟨p0,p1,p2,p3⟩:=posC S7.hp;cases cj;all_goals
  go_wp2_with (refine(must2 _ _ S7.hc).mono ?_;rintro e w8 ⟨rfl,hk,hc⟩;have S8:=(S7.below (qH.alloc qJ _)).step HN.out hk hc;clear hk hc)
  go_end0
  exact⟨rfl,S8.hk,ck_z S8.hc (by rw[HZ.out];unfold ownQ;rw[if_neg (beq_eq_false_iff_ne.1 h10)];unfold cjP;simp[Bool.and_assoc])⟩
mutual
inductive EA where
 | mk (k:Int) (t:Tx) (n:Int) (a b:Tx) (As:Option Addr) (cs:Nat) (subs:List EA) (Ad:Option Addr) (cd:Nat) (decls:List DA) (At:Option Addr) (ct:Nat) (tail:List Tx) (pos:Int)
inductive DA where
 | mk (k p:Int) (l a b:Tx) (As:Option Addr) (cs:Nat) (subs:List EA) (Ab:Option Addr) (cb:Nat) (body:List DA) (At:Option Addr) (ct:Nat) (tail:List Tx) (Al:Option Addr) (cl:Nat) (lead:List Tx) (trail:Tx) (pos:Int)
end
def encE:EA→List Value
 | .mk k t n a b As cs subs Ad cd decls At ct tail pos=>[.int .i64 k,.string ⟨t.toArray⟩,.int .i64 n,.string ⟨a.toArray⟩,.string ⟨b.toArray⟩,.slice As subs.length cs,.slice Ad decls.length cd,.slice At tail.length ct,.int .i64 pos]
def encD:DA→List Value
 | .mk k p l a b As cs subs Ab cb body At ct tail Al cl lead trail pos=>[.int .i64 k,.int .i64 p,.string ⟨l.toArray⟩,.string ⟨a.toArray⟩,.string ⟨b.toArray⟩,.slice As subs.length cs,.slice Ab body.length cb,.slice At tail.length ct,.slice Al lead.length cl,.string ⟨trail.toArray⟩,.int .i64 pos]
theorem zN0:∀ e,(encE e).length=9
 | .mk ..=>rfl
theorem zN1:∀ d,(encD d).length=11
 | .mk ..=>rfl
mutual
def plE:EA→E
 | .mk k t n a b _ _ subs _ _ decls _ _ tail pos=>.mk k t n a b (plEs subs) (plDs decls) tail pos
def plEs:List EA→List E
 | []=>[]
 | x ::l=>plE x ::plEs l
def plD:DA→D
 | .mk k p l a b _ _ subs _ _ body _ _ tail _ _ lead trail pos=>.mk k p l a b (plEs subs) (plDs body) tail lead trail pos
def plDs:List DA→List D
 | []=>[]
 | x ::l=>plD x ::plDs l
end
theorem zX9 (l:List EA):plEs l=l.map plE:=by
 induction l with
 | nil=>rfl
 | cons x l ih=>simp[plEs,ih]
theorem zX3 (l:List DA):plDs l=l.map plD:=by
 induction l with
 | nil=>rfl
 | cons x l ih=>simp[plDs,ih]
theorem zY9 {P:EA→Prop}{Q:DA→Prop}{P':List EA→Prop}{Q':List DA→Prop}
  (h1:∀ k t n a b As cs subs Ad cd decls At ct tail pos,P' subs→Q' decls→P (.mk k t n a b As cs subs Ad cd decls At ct tail pos))
  (h2:∀ k p l a b As cs subs Ab cb body At ct tail Al cl lead trail pos,P' subs→Q' body→Q (.mk k p l a b As cs subs Ab cb body At ct tail Al cl lead trail pos))
  (h3:P' [])(h4:∀ e l,P e→P' l→P' (e ::l))(h5:Q' [])(h6:∀ d l,Q d→Q' l→Q' (d ::l)) :
  (∀ e,P e)∧(∀ d,Q d)∧(∀ l,P' l)∧∀ l,Q' l:=
 ⟨fun e=>EA.rec (motive_1:=P) (motive_2:=Q) (motive_3:=P') (motive_4:=Q') h1 h2 h3 h4 h5 h6 e,
  fun d=>DA.rec (motive_1:=P) (motive_2:=Q) (motive_3:=P') (motive_4:=Q') h1 h2 h3 h4 h5 h6 d,
  fun l=>EA.rec_1 (motive_1:=P) (motive_2:=Q) (motive_3:=P') (motive_4:=Q') h1 h2 h3 h4 h5 h6 l,
  fun l=>EA.rec_2 (motive_1:=P) (motive_2:=Q) (motive_3:=P') (motive_4:=Q') h1 h2 h3 h4 h5 h6 l⟩
mutual
def LieE (w:World):EA→Prop
 | .mk _ _ _ _ _ As _ subs Ad _ decls At _ tail _=>Sl w w.heap.size 9 encE As subs∧LieEs w subs∧Sl w w.heap.size 11 encD Ad decls∧LieDs w decls∧Sl w w.heap.size 1 encS At tail
def LieEs (w:World):List EA→Prop
 | []=>True
 | x ::l=>LieE w x∧LieEs w l
def LieD (w:World):DA→Prop
 | .mk _ _ _ _ _ As _ subs Ab _ body At _ tail Al _ lead _ _=>Sl w w.heap.size 9 encE As subs∧LieEs w subs∧Sl w w.heap.size 11 encD Ab body∧LieDs w body∧Sl w w.heap.size 1 encS At tail∧Sl w w.heap.size 1 encS Al lead
def LieDs (w:World):List DA→Prop
 | []=>True
 | x ::l=>LieD w x∧LieDs w l
end
theorem LieEs.at_ {w:World}:∀ {l:List EA}(_:LieEs w l){e:EA}(_:e∈l),LieE w e
 | _ ::_,h,_,he=>by
   rcases List.mem_cons.1 he with rfl | he
   ·exact h.1
   ·exact LieEs.at_ h.2 he
theorem LieDs.at_ {w:World}:∀ {l:List DA}(_:LieDs w l){d:DA}(_:d∈l),LieD w d
 | _ ::_,h,_,he=>by
   rcases List.mem_cons.1 he with rfl | he
   ·exact h.1
   ·exact LieDs.at_ h.2 he
end Go.Proofs.YtdgehhgjgifikaaGreatDoor
