/- What the claim needs of:YF. -/
import Derived.Test.YtdgehhgjgifikaaGreatDoorN6
namespace Go.Proofs.YtdgehhgjgifikaaGreatDoor
open Go.RowKit
theorem posC {w:World}{g:Nat}{ty:TypeId}{v0 v1 v2 v3:Value}(h:Blk w g ty #[v0,v1,v2,v3]):w.cell? ⟨g,0,none⟩=some v0∧w.cell? ⟨g,1,none⟩=some v1∧w.cell? ⟨g,2,none⟩=some v2∧w.cell? ⟨g,3,none⟩=some v3:=⟨h.cell 0,h.cell 1,h.cell 2,h.cell 3⟩
theorem Glob.keepK {w w':World}{g:Nat}{wr dp:Bool}(h:Glob w)(hC:CkAt w g wr dp)(hk:Kp (· = g) w w'):Glob w':=by
 obtain⟨m,hm⟩:=h
 refine⟨m,(hk.cell (zH6 hm) ?_).trans hm⟩
 rintro rfl
 rw[hC.c0] at hm
 cases hm
structure OwnSt (w:World)(g:Nat)(X dp:Bool)(E P:Array Value)(At:Option Addr)(tail:List Tx)(wx:World):Prop where
 hk:Kp (· = g) w wx
 hc:CkAt wx g X dp
 he:Blk wx w.heap.size 67 E
 hp:Blk wx (w.heap.size+1) 241 P
 hs:Sl wx w.heap.size 1 encS At tail
 hg:Glob wx
section
variable {w wx wy:World}{g:Nat}{X Y dp dp':Bool}{E P:Array Value}{At:Option Addr}{tail:List Tx}
theorem OwnSt.ne (h:OwnSt w g X dp E P At tail wx):w.heap.size≠g:=fun e=>by
 have h1:=h.hc
 unfold CkAt at h1
 rw[←e] at h1
 have:=(h.he.inj h1).1
 revert this
 decide
theorem OwnSt.ne1 (h:OwnSt w g X dp E P At tail wx):w.heap.size+1≠g:=fun e=>by
 have h1:=h.hc
 unfold CkAt at h1
 rw[←e] at h1
 have:=(h.hp.inj h1).1
 revert this
 decide
theorem OwnSt.below (h:OwnSt w g X dp E P At tail wx)(hb:Below wx.heap.size wx wy):OwnSt w g X dp E P At tail wy:=
 ⟨h.hk.below hb,h.hc.keep hb,h.he.keep hb,h.hp.keep hb,h.hs.below (hb.mono h.hk.size),h.hg.keep hb⟩
theorem OwnSt.step (h:OwnSt w g X dp E P At tail wx)(hn:tail=[]∨∀ a,At=some a→a.block≠g)(hk:Kp (· = g) wx wy)(hc:CkAt wy g Y dp'):OwnSt w g Y dp' E P At tail wy:=
 ⟨h.hk.trans hk,hc,hk.blk h.he h.ne,hk.blk h.hp h.ne1,(by
  rcases hn with rfl | hn
  ·exact Sl.nil_
  ·exact hk.sl h.hs h.hk.size (fun b hb=>by
    cases At with
    | none=>cases hb
    | some a=>
      injection hb with hb
      subst hb
      exact hn a rfl)),h.hg.keepK h.hc hk⟩
theorem yV0 {B:Nat}{α:Type}{k:Nat}{enc:α→List Value}{l:List α}(h:Sl w B k enc At l)(hg:B≤g):l=[]∨∀ a,At=some a→a.block≠g:=by
 rcases h with h | ⟨b,off,rfl,hb,_⟩
 ·exact .inl h
 ·exact .inr fun a ha=>by
   injection ha with ha
   subst ha
   show b≠g
   omega
theorem OwnSt.cast (h:OwnSt w g X dp E P At tail wx)(e:X=Y):OwnSt w g Y dp E P At tail wx:=e▸h
end
def kOk (k:Int):Bool:=decide (1≤k)&&decide (k≤22)
def isS (k:Int):Bool:=decide (k=13)||decide (k=22)
def blkP (k:Int)(m2:Nat)(tail:List Tx):Bool:=(isS k||decide ((m2:Int)+(tail.length:Int)=0))&& !zY4 tail
def numP (k n:Int):Bool:=if k=2∨k=14 then decide (n=0)||decide (n=1) else if k=3 then decide (0≤n)&&(decide (-1000000000000000≤n)&&decide (n≤1000000000000000)) else decide (n=0)
def nmP (k:Int)(a b:Tx):Bool:=if k=15 then yZ2 a b else decide (a=[]∧b=[])
def mkP (k:Int)(io il:Bool):Bool:=(io||(k != 18))&&(il||(k != 15))
def cjP (k:Int)(cj:Bool):Bool:=(cj||(k != 13))&&(!cj||(k != 22))
theorem yA2 (n:Int)(w:World):Calls Tryz.prog 205 #[.int .i64 n] w fun e w'=>e=.returned (.bool (decide ((-1000000000000000:Int)≤n)&&decide (n≤1000000000000000)))∧w=w':=by
 by_cases h1:(-1000000000000000:Int)≤n <;> by_cases h2:n≤1000000000000000
 all_goals
  go_enter Tryz.func205,Tryz.ntmps205
  go_wp2
  go_ret
  exact⟨zO6 (by simp[h1,h2];try omega),rfl⟩
def ownQ (k:Int)(t:Tx)(n:Int)(a b:Tx)(m m2:Nat)(tail:List Tx)(cj io il:Bool):Bool:=
 kOk k&&yW7 k n m&&yW8 k t&&blkP k m2 tail&&(if k=10 then zY8 t&&refP n a b m else numP k n&&nmP k a b&&mkP k io il&&cjP k cj)
set_option maxRecDepth 100000 in
theorem zS0 {o:Oper}{P:Program}{Q:Exit→Act→World→Prop}{K:Act→World→Prop}{W:World}{fs:List Fact}{G:Act→Prop}(aa ab ac ad ae af ag ah ai aj ak al am an ao ap aq ar au av aw ax ay az aA aB aC aD aE aF aG aH aI aJ aK aL aM aN aO aP aQ aR aS aT aU aV aW aX aY aZ a0 a1 a2 a3 a4 a5 a6 a7 a8 a9 ba bb bc bd be bf bg bh bi bj bk bl bm bn bo bp bq br bs bt bu bv bw bx bz bA bB bC bD bE bF bG bH bI bJ bK bL bM bN bO bP bQ bR bS bT bU bV bW bX bY bZ b0 b1 b2 b3 b4 b5 b6 b7 b8 b9 ca cb cc cd ce cf cg ch ci cj ck cl cm cn co cp cq cr cs ct cu cv cw cx:Value)(hG:∀ A,o.wp P A W K Q→G A)(h:o.wp P (Act.mk #[aa,ab,ac,ad,ae,af,ag,ah,ai,aj,ak,al,am,an,ao,ap,aq,ar,au,av,aw,ax,ay,az,aA,aB,aC,aD,aE,aF,aG,aH,aI,aJ,aK,aL,aM,aN,aO,aP,aQ,aR,aS,aT,aU,aV,aW,aX,aY,aZ,a0,a1,a2,a3,a4,a5,a6,a7,a8,a9,ba,bb,bc,bd,be,bf,bg,bh,bi,bj,bk,bl,bm,bn,bo,bp,bq,br,cq,cr,cs,ct,cu,cv,cw,cx,bB,bC,bD,bE,bF,bG,bH,bI,bJ,bK,bL,bM,bN,bO,bP,bQ,bR,bS,bT,bU,bV,bW,bX,bY,bZ,b0,b1,b2,b3,b4,b5,b6,b7,b8,b9,ca,cb,cc,cd,ce,cf,cg,ch,ci,cj,ck,cl,cm,cn,co,cp] []) W K Q):zX1 W G [] fs (Act.put (Act.put (Act.put (Act.put (Act.put (Act.put (Act.put (Act.put (Act.mk #[aa,ab,ac,ad,ae,af,ag,ah,ai,aj,ak,al,am,an,ao,ap,aq,ar,au,av,aw,ax,ay,az,aA,aB,aC,aD,aE,aF,aG,aH,aI,aJ,aK,aL,aM,aN,aO,aP,aQ,aR,aS,aT,aU,aV,aW,aX,aY,aZ,a0,a1,a2,a3,a4,a5,a6,a7,a8,a9,ba,bb,bc,bd,be,bf,bg,bh,bi,bj,bk,bl,bm,bn,bo,bp,bq,br,bs,bt,bu,bv,bw,bx,bz,bA,bB,bC,bD,bE,bF,bG,bH,bI,bJ,bK,bL,bM,bN,bO,bP,bQ,bR,bS,bT,bU,bV,bW,bX,bY,bZ,b0,b1,b2,b3,b4,b5,b6,b7,b8,b9,ca,cb,cc,cd,ce,cf,cg,ch,ci,cj,ck,cl,cm,cn,co,cp] []) (some 78) cq) (some 79) cr) (some 80) cs) (some 81) ct) (some 82) cu) (some 83) cv) (some 84) cw) (some 85) cx):=
 zT9 (by kernel_rfl) hG h
set_option maxRecDepth 100000 in
theorem zT2 {o:Oper}{P:Program}{Q:Exit→Act→World→Prop}{K:Act→World→Prop}{W:World}{fs:List Fact}{G:Act→Prop}(aa ab ac ad ae af ag ah ai aj ak al am an ao ap aq ar au av aw ax ay az aA aB aC aD aE aF aG aH aI aJ aK aL aM aN aO aP aQ aR aS aT aU aV aW aX aY aZ a0 a1 a2 a3 a4 a5 a6 a7 a8 a9 ba bb bc bd be bf bg bh bi bj bk bl bm bn bo bp bq br bs bt bu bv bw bx bz bA bB bC bD bE bF bG bH bI bJ bK bL bM bN bO bP bQ bR bS bT bU bV bW bX bY bZ b0 b1 b2 b3 b4 b5 b6 b7 b8 b9 ca cb cc cd ce cf cg ch ci cj ck cl cm cn co cp cq cr cs ct cu cv cw cx cy cz cA cB cC cD cE cF:Value)(hG:∀ A,o.wp P A W K Q→G A)(h:o.wp P (Act.mk #[aa,ab,ac,ad,ae,af,ag,ah,ai,aj,ak,al,am,an,ao,ap,aq,ar,au,av,aw,ax,ay,az,aA,aB,aC,aD,aE,aF,aG,aH,cq,cr,cs,ct,cu,cv,cw,cx,cy,cz,cA,cB,cC,cD,cE,cF,aY,aZ,a0,a1,a2,a3,a4,a5,a6,a7,a8,a9,ba,bb,bc,bd,be,bf,bg,bh,bi,bj,bk,bl,bm,bn,bo,bp,bq,br,bs,bt,bu,bv,bw,bx,bz,bA,bB,bC,bD,bE,bF,bG,bH,bI,bJ,bK,bL,bM,bN,bO,bP,bQ,bR,bS,bT,bU,bV,bW,bX,bY,bZ,b0,b1,b2,b3,b4,b5,b6,b7,b8,b9,ca,cb,cc,cd,ce,cf,cg,ch,ci,cj,ck,cl,cm,cn,co,cp] []) W K Q):zX1 W G [] fs (Act.put (Act.put (Act.put (Act.put (Act.put (Act.put (Act.put (Act.put (Act.put (Act.put (Act.put (Act.put (Act.put (Act.put (Act.put (Act.put (Act.mk #[aa,ab,ac,ad,ae,af,ag,ah,ai,aj,ak,al,am,an,ao,ap,aq,ar,au,av,aw,ax,ay,az,aA,aB,aC,aD,aE,aF,aG,aH,aI,aJ,aK,aL,aM,aN,aO,aP,aQ,aR,aS,aT,aU,aV,aW,aX,aY,aZ,a0,a1,a2,a3,a4,a5,a6,a7,a8,a9,ba,bb,bc,bd,be,bf,bg,bh,bi,bj,bk,bl,bm,bn,bo,bp,bq,br,bs,bt,bu,bv,bw,bx,bz,bA,bB,bC,bD,bE,bF,bG,bH,bI,bJ,bK,bL,bM,bN,bO,bP,bQ,bR,bS,bT,bU,bV,bW,bX,bY,bZ,b0,b1,b2,b3,b4,b5,b6,b7,b8,b9,ca,cb,cc,cd,ce,cf,cg,ch,ci,cj,ck,cl,cm,cn,co,cp] []) (some 32) cq) (some 33) cr) (some 34) cs) (some 35) ct) (some 36) cu) (some 37) cv) (some 38) cw) (some 39) cx) (some 40) cy) (some 41) cz) (some 42) cA) (some 43) cB) (some 44) cC) (some 45) cD) (some 46) cE) (some 47) cF):=
 zT9 (by kernel_rfl) hG h
set_option maxRecDepth 100000 in
set_option maxHeartbeats 16000000 in
theorem own_any (g:Nat)(wr acc dp:Bool)(k:Int)(t:Tx)(n:Int)(a b:Tx)(As:Option Addr)(m cs:Nat)(Ad:Option Addr)(m2 cd:Nat)(At:Option Addr)(tail:List Tx)(ct:Nat)(pos:Int)(cj io il:Bool)(lv:Int)(w:World)(hC:CkAt w g (wr|| !acc) dp)(hG:Glob w)(hS:Sl w w.heap.size 1 encS At tail)(hN:tail=[]∨∀ a,At=some a→a.block≠g)(ht:t.length≤maxLen)(ha:a.length≤maxLen)(hb:b.length≤maxLen)(htl:tail.length≤1099511627776)(hm2:m2≤1099511627776) :
  Calls Tryz.prog 186 #[.pointer (some ⟨g,0,none⟩),.agg #[.int .i64 k,.string ⟨t.toArray⟩,.int .i64 n,.string ⟨a.toArray⟩,.string ⟨b.toArray⟩,.slice As m cs,.slice Ad m2 cd,.slice At tail.length ct,.int .i64 pos],.agg #[.bool cj,.bool io,.bool il,.int .i64 lv]] w (zM1 g (wr|| !(acc&&ownQ k t n a b m m2 tail cj io il)) dp w):=by
 obtain⟨Z,hZ⟩:∃ Z,Z=(wr|| !(acc&&ownQ k t n a b m m2 tail cj io il)):=⟨_,rfl⟩
 rw[←hZ]
 have HZ:=Lib.hid hZ
 have HN:=Lib.hid hN
 have HT:=Lib.hid ht
 have HA:=Lib.hid ha
 have HB:=Lib.hid hb
 have S0:OwnSt w g (wr|| !acc) dp #[.int .i64 k,.string ⟨t.toArray⟩,.int .i64 n,.string ⟨a.toArray⟩,.string ⟨b.toArray⟩,.slice As m cs,.slice Ad m2 cd,.slice At tail.length ct,.int .i64 pos] #[.bool cj,.bool io,.bool il,.int .i64 lv] At tail ((w.alloc (.cells #[.int .i64 k,.string ⟨t.toArray⟩,.int .i64 n,.string ⟨a.toArray⟩,.string ⟨b.toArray⟩,.slice As m cs,.slice Ad m2 cd,.slice At tail.length ct,.int .i64 pos] 67)).alloc (.cells #[.bool cj,.bool io,.bool il,.int .i64 lv] 241)):=by
  have hb2:Below w.heap.size w ((w.alloc (.cells #[.int .i64 k,.string ⟨t.toArray⟩,.int .i64 n,.string ⟨a.toArray⟩,.string ⟨b.toArray⟩,.slice As m cs,.slice Ad m2 cd,.slice At tail.length ct,.int .i64 pos] 67)).alloc (.cells #[.bool cj,.bool io,.bool il,.int .i64 lv] 241)):=((Below.refl _ _).alloc (Nat.le_refl _) _).alloc (by simp) _
  refine⟨Kp.ofBelow hb2 _,hC.keep hb2,(Blk.new w _ _).alloc _,?_,hS.below hb2,hG.keep hb2⟩
  have:=Blk.new (w.alloc (.cells #[.int .i64 k,.string ⟨t.toArray⟩,.int .i64 n,.string ⟨a.toArray⟩,.string ⟨b.toArray⟩,.slice As m cs,.slice Ad m2 cd,.slice At tail.length ct,.int .i64 pos] 67)) 241 #[.bool cj,.bool io,.bool il,.int .i64 lv]
  rw[World.size_alloc] at this
  exact this
 clear hC hG hS hZ hN ht ha hb
 go_enter Tryz.func186,Tryz.ntmps186
 go_upto_region 1 with fail
 generalize (w.alloc (.cells #[.int .i64 k,.string ⟨t.toArray⟩,.int .i64 n,.string ⟨a.toArray⟩,.string ⟨b.toArray⟩,.slice As m cs,.slice Ad m2 cd,.slice At tail.length ct,.int .i64 pos] 67)).alloc (.cells #[.bool cj,.bool io,.bool il,.int .i64 lv] 241)=w1 at S0 ⊢
 obtain⟨e0,e1,e2,e3,e4,e5,e6,e7,e8⟩:=zZ6 S0.he
 obtain⟨p0,p1,p2,p3⟩:=posC S0.hp
 go_cut [] from 7 to 17 (fun wx=>OwnSt w g (wr|| !(acc&&kOk k)) dp #[.int .i64 k,.string ⟨t.toArray⟩,.int .i64 n,.string ⟨a.toArray⟩,.string ⟨b.toArray⟩,.slice As m cs,.slice Ad m2 cd,.slice At tail.length ct,.int .i64 pos] #[.bool cj,.bool io,.bool il,.int .i64 lv] At tail wx)
 case first=>
  go_wp2_with (refine(zR4 _ S0.hc).mono ?_;rintro e w2 ⟨rfl,hk,hc⟩;have S1:=(S0.below ((Below.refl _ _).alloc (Nat.le_refl _) _)).step HN.out hk hc;clear hk hc)
  all_goals
   go_meet
   case rel=>exact S1.cast (by unfold kOk;simp[*])
 clear e0 e1 e2 e3 e4 e5 e6 e7 e8 p0 p1 p2 p3
 have S1:=hcut
 clear hcut S0
 obtain⟨e0,e1,e2,e3,e4,e5,e6,e7,e8⟩:=zZ6 S1.he
 obtain⟨p0,p1,p2,p3⟩:=posC S1.hp
 go_wp2_with fail
 refine(subs_any g wr _ dp k t n a b As m cs Ad m2 cd At tail.length ct pos _ S1.hc S1.hg).mono ?_
 rintro e w2 ⟨rfl,hk,hc⟩
 have S2:=S1.step HN.out hk hc
 clear e0 e1 e2 e3 e4 e5 e6 e7 e8 p0 p1 p2 p3
 clear hk hc S1
 obtain⟨e0,e1,e2,e3,e4,e5,e6,e7,e8⟩:=zZ6 S2.he
 obtain⟨p0,p1,p2,p3⟩:=posC S2.hp
 go_wp2_with fail
 refine(text_any g wr _ dp k t n a b As m cs Ad m2 cd At tail.length ct pos _ S2.hc S2.hg HT.out).mono ?_
 rintro e w3 ⟨rfl,hk,hc⟩
 have S3:=S2.step HN.out hk hc
 clear e0 e1 e2 e3 e4 e5 e6 e7 e8 p0 p1 p2 p3
 clear hk hc S2
 obtain⟨e0,e1,e2,e3,e4,e5,e6,e7,e8⟩:=zZ6 S3.he
 obtain⟨p0,p1,p2,p3⟩:=posC S3.hp
 go_upto_region 4 with fail
 obtain⟨iS,hiS⟩:∃ iS,iS=isS k:=⟨_,rfl⟩
 have HiS:=Lib.hid hiS
 clear hiS
 go_cut [6] from 24 to 31 (fun v6 wx=>v6=.bool iS∧wx=w3)
 case first=>
  cases h13:((k:Int) == 13) <;> cases h22:((k:Int) == 22)
  all_goals
   go_wp2
   go_meet
   case rel=>exact⟨by rw[HiS.out];clear S3 e0 e1 e2 e3 e4 e5 e6 e7 e8 p0 p1 p2 p3;unfold isS;simp_all,rfl⟩
 obtain⟨rfl,rfl⟩:=hcut
 obtain⟨rT,hrT⟩:∃ r,r=(iS||decide ((m2:Int)+(tail.length:Int)=0)):=⟨_,rfl⟩
 have HrT:=Lib.hid hrT
 clear hrT
 go_upto_region 5 with fail
 go_cut [] from 32 to 48 (fun wx=>OwnSt w g (wr|| !((((acc&&kOk k)&&yW7 k n m)&&yW8 k t)&&blkP k m2 tail)) dp #[.int .i64 k,.string ⟨t.toArray⟩,.int .i64 n,.string ⟨a.toArray⟩,.string ⟨b.toArray⟩,.slice As m cs,.slice Ad m2 cd,.slice At tail.length ct,.int .i64 pos] #[.bool cj,.bool io,.bool il,.int .i64 lv] At tail wx)
 case first=>
  have hz0:w.heap.size < wc.heap.size:=S3.he.lt
  have hz1:w.heap.size+1 < wc.heap.size:=S3.hp.lt
  have hw0:IntKind.i64.wrap ((m2:Int)+(tail.length:Int))=(m2:Int)+(tail.length:Int):=by rw[IntKind.wrap_i64];omega
  cases iS
  ·cases h0:(((m2:Int)+(tail.length:Int)) == 0)
   ·have HX:=Lib.hid (show (false&& !zY4 tail)=blkP k m2 tail from by unfold blkP;rw[←HiS.out,decide_eq_false (beq_eq_false_iff_ne.1 h0)];rfl)
    apply zY1 (by kernel_rfl) [isv _,isv _,isv _,isv _,isv _,isv _,isv _,isv _,isv _,isv _,isv _,isv _,isv _,isv _,isv _,(fun v W=>∃ p:Nat,v=.slice (some ⟨p,0,none⟩) 2 2∧Blk W p 4 #[.bool (false),.bool (!zY4 tail)])] wc.heap.size wc (Nat.le_refl _) (Below.refl _ _).drew (by kernel_rfl) (by kernel_rfl) (by kernel_rfl) (by kernel_rfl) (by kernel_rfl) (And.intro (zZ1 _) (And.intro (zZ1 _) (And.intro (zZ1 _) (And.intro (zZ1 _) (And.intro (zZ1 _) (And.intro (zZ1 _) (And.intro (zZ1 _) (And.intro (zZ1 _) (And.intro (zZ1 _) (And.intro (zZ1 _) (And.intro (zZ1 _) (And.intro (zZ1 _) (And.intro (zZ1 _) (And.intro (zZ1 _) (And.intro (zZ1 _) (And.intro (fun _ _ _ ⟨p,e,h1⟩ hb=>⟨p,e,h1.keep hb⟩) trivial)))))))))))))))) ?steps (by rfl) _ rfl rfl ?fin
    case steps=>
     refine(And.intro ?o0 (And.intro ?o1 (And.intro ?o2 (And.intro ?o3 (And.intro ?o4 (And.intro ?o5 (And.intro ?o6 (And.intro ?o7 (And.intro ?o8 (And.intro ?o9 (And.intro ?o10 (And.intro ?o11 (And.intro ?o12 (And.intro ?o13 (And.intro ?o14 (And.intro ?o15 trivial))))))))))))))))
     case o0=>
      intro AA W KK QQ hB hs hd hl hk
      have sl0:=hs 0 _ (by kernel_rfl) rfl
      clear hs hd hl
      go_simp
      exact hk _ _ rfl (Below.refl _ _)
     case o1=>
      intro AA W KK QQ hB hs hd hl hk
      have sl6:=hs 6 _ (by kernel_rfl) rfl
      clear hs hd hl
      go_simp
      exact hk _ _ rfl (Below.refl _ _)
     case o2=>
      intro AA W KK QQ hB hs hd hl hk
      obtain⟨_,sl33,rfl⟩:=hd 1 33 (by kernel_rfl) rfl
      clear hs hd hl
      go_simp
      exact hk _ _ rfl (Below.refl _ _)
     case o3=>
      intro AA W KK QQ hB hs hd hl hk
      have sl4:=hs 4 _ (by kernel_rfl) rfl
      obtain⟨_,sl34,rfl⟩:=hd 2 34 (by kernel_rfl) rfl
      clear hs hd hl
      refine⟨_,_,rfl,sl34,?_⟩
      first
       | (change Oper.wp _ _ _ _ _ _;go_simp;exact hk _ _ rfl (Below.refl _ _))
       | exact rfl
     case o4=>
      intro AA W KK QQ hB hs hd hl hk
      obtain⟨_,sl34,rfl⟩:=hd 2 34 (by kernel_rfl) rfl
      obtain⟨_,sl35,rfl⟩:=hd 3 35 (by kernel_rfl) rfl
      clear hs hd hl
      have hx6:=hB.cell (p:=⟨w.heap.size,6,none⟩) hz0
      rw[e6] at hx6
      refine⟨_,_,rfl,sl34,?_⟩
      first
       | (change Oper.wp _ _ _ _ _ _;go_simp;exact hk _ _ rfl (Below.refl _ _))
       | exact rfl
     case o5=>
      intro AA W KK QQ hB hs hd hl hk
      obtain⟨_,sl34,rfl⟩:=hd 2 34 (by kernel_rfl) rfl
      obtain⟨_,sl36,rfl⟩:=hd 4 36 (by kernel_rfl) rfl
      clear hs hd hl
      refine⟨_,_,rfl,sl34,?_⟩
      first
       | (change Oper.wp _ _ _ _ _ _;go_simp;exact hk _ _ rfl (Below.refl _ _))
       | exact rfl
     case o6=>
      intro AA W KK QQ hB hs hd hl hk
      have sl4:=hs 4 _ (by kernel_rfl) rfl
      obtain⟨_,sl34,rfl⟩:=hd 2 34 (by kernel_rfl) rfl
      clear hs hd hl
      refine⟨_,_,rfl,sl34,?_⟩
      first
       | (change Oper.wp _ _ _ _ _ _;go_simp;exact hk _ _ rfl (Below.refl _ _))
       | exact rfl
     case o7=>
      intro AA W KK QQ hB hs hd hl hk
      obtain⟨_,sl34,rfl⟩:=hd 2 34 (by kernel_rfl) rfl
      obtain⟨_,sl38,rfl⟩:=hd 6 38 (by kernel_rfl) rfl
      clear hs hd hl
      have hx7:=hB.cell (p:=⟨w.heap.size,7,none⟩) hz0
      rw[e7] at hx7
      refine⟨_,_,rfl,sl34,?_⟩
      first
       | (change Oper.wp _ _ _ _ _ _;go_simp;exact hk _ _ rfl (Below.refl _ _))
       | exact rfl
     case o8=>
      intro AA W KK QQ hB hs hd hl hk
      obtain⟨_,sl34,rfl⟩:=hd 2 34 (by kernel_rfl) rfl
      obtain⟨_,sl39,rfl⟩:=hd 7 39 (by kernel_rfl) rfl
      clear hs hd hl
      refine⟨_,_,rfl,sl34,?_⟩
      first
       | (change Oper.wp _ _ _ _ _ _;go_simp;exact hk _ _ rfl (Below.refl _ _))
       | exact rfl
     case o9=>
      intro AA W KK QQ hB hs hd hl hk
      obtain⟨_,sl34,rfl⟩:=hd 2 34 (by kernel_rfl) rfl
      obtain⟨_,sl37,rfl⟩:=hd 5 37 (by kernel_rfl) rfl
      obtain⟨_,sl40,rfl⟩:=hd 8 40 (by kernel_rfl) rfl
      clear hs hd hl
      refine⟨_,_,rfl,sl34,?_⟩
      first
       | (change Oper.wp _ _ _ _ _ _;go_simp;exact hk _ _ rfl (Below.refl _ _))
       | exact rfl
     case o10=>
      intro AA W KK QQ hB hs hd hl hk
      obtain⟨_,sl34,rfl⟩:=hd 2 34 (by kernel_rfl) rfl
      obtain⟨_,sl41,rfl⟩:=hd 9 41 (by kernel_rfl) rfl
      clear hs hd hl
      refine⟨_,_,rfl,sl34,?_⟩
      first
       | (change Oper.wp _ _ _ _ _ _;go_simp;exact hk _ _ rfl (Below.refl _ _))
       | exact rfl
     case o11=>
      intro AA W KK QQ hB hs hd hl hk
      obtain⟨_,sl34,rfl⟩:=hd 2 34 (by kernel_rfl) rfl
      obtain⟨_,sl42,rfl⟩:=hd 10 42 (by kernel_rfl) rfl
      clear hs hd hl
      go_simp
      exact hk _ _ rfl (Below.refl _ _)
     case o12=>
      intro AA W KK QQ hB hs hd hl hk
      have sl4:=hs 4 _ (by kernel_rfl) rfl
      clear hs hd hl
      go_simp
      exact hk _ _ rfl (Below.refl _ _)
     case o13=>
      intro AA W KK QQ hB hs hd hl hk
      obtain⟨_,sl44,rfl⟩:=hd 12 44 (by kernel_rfl) rfl
      clear hs hd hl
      have hx7:=hB.cell (p:=⟨w.heap.size,7,none⟩) hz0
      rw[e7] at hx7
      go_simp
      exact hk _ _ rfl (Below.refl _ _)
     case o14=>
      intro AA W KK QQ hB hs hd hl hk
      obtain⟨_,sl45,rfl⟩:=hd 13 45 (by kernel_rfl) rfl
      clear hs hd hl
      go_simp
      refine(zW3 At ct tail W ((S3.hs.below (hB.mono S3.hk.size)).more (Nat.le_trans S3.hk.size hB.size)) (by omega)).mono ?_
      rintro e W2 ⟨rfl,rfl⟩
      exact hk _ _ rfl (Below.refl _ _)
     case o15=>
      intro AA W KK QQ hB hs hd hl hk
      obtain⟨_,sl43,rfl⟩:=hd 11 43 (by kernel_rfl) rfl
      obtain⟨_,sl46,rfl⟩:=hd 14 46 (by kernel_rfl) rfl
      clear hs hd hl
      go_simp
      exact hk _ _ ⟨_,rfl,Blk.new _ _ _⟩ ((Below.refl _ _).alloc (Nat.le_refl _) _)
    case fin=>
     intro wf hB GG hGG
     refine zZ0 32 rfl ?_
     refine zZ0 33 rfl ?_
     refine zZ0 34 rfl ?_
     refine zZ0 35 rfl ?_
     refine zZ0 36 rfl ?_
     refine zZ0 37 rfl ?_
     refine zZ0 38 rfl ?_
     refine zZ0 39 rfl ?_
     refine zZ0 40 rfl ?_
     refine zZ0 41 rfl ?_
     refine zZ0 42 rfl ?_
     refine zZ0 43 rfl ?_
     refine zZ0 44 rfl ?_
     refine zZ0 45 rfl ?_
     refine zZ0 46 rfl ?_
     refine zZ9 47 rfl ?_
     rintro _ ⟨p,rfl,hP⟩
     refine zT2 _ _ _ _ _ _ _ _ _ _ _ _ _ _ _ _ _ _ _ _ _ _ _ _ _ _ _ _ _ _ _ _ _ _ _ _ _ _ _ _ _ _ _ _ _ _ _ _ _ _ _ _ _ _ _ _ _ _ _ _ _ _ _ _ _ _ _ _ _ _ _ _ _ _ _ _ _ _ _ _ _ _ _ _ _ _ _ _ _ _ _ _ _ _ _ _ _ _ _ _ _ _ _ _ _ _ _ _ _ _ _ _ _ _ _ _ _ _ _ _ _ _ _ _ _ _ _ _ _ _ _ _ _ _ _ _ _ _ _ _ _ _ _ _ _ _ _ _ _ _ _ _ _ hGG ?_
     go_simp
     have Sf:=S3.below hB
     refine(yZ7 _ _ Sf.hc hP).mono ?_
     rintro e w5 ⟨rfl,hk,hc⟩
     have S5:=Sf.step HN.out hk hc
     go_wp2_with fail
     go_meet
     case rel=>exact S5.cast (by rw[←HX.out])
   ·have HX:=Lib.hid (show (true&& !zY4 tail)=blkP k m2 tail from by unfold blkP;rw[←HiS.out,decide_eq_true (beq_iff_eq.1 h0)];rfl)
    apply zY1 (by kernel_rfl) [isv _,isv _,isv _,isv _,isv _,isv _,isv _,isv _,isv _,isv _,isv _,isv _,isv _,isv _,isv _,(fun v W=>∃ p:Nat,v=.slice (some ⟨p,0,none⟩) 2 2∧Blk W p 4 #[.bool (true),.bool (!zY4 tail)])] wc.heap.size wc (Nat.le_refl _) (Below.refl _ _).drew (by kernel_rfl) (by kernel_rfl) (by kernel_rfl) (by kernel_rfl) (by kernel_rfl) (And.intro (zZ1 _) (And.intro (zZ1 _) (And.intro (zZ1 _) (And.intro (zZ1 _) (And.intro (zZ1 _) (And.intro (zZ1 _) (And.intro (zZ1 _) (And.intro (zZ1 _) (And.intro (zZ1 _) (And.intro (zZ1 _) (And.intro (zZ1 _) (And.intro (zZ1 _) (And.intro (zZ1 _) (And.intro (zZ1 _) (And.intro (zZ1 _) (And.intro (fun _ _ _ ⟨p,e,h1⟩ hb=>⟨p,e,h1.keep hb⟩) trivial)))))))))))))))) ?steps (by rfl) _ rfl rfl ?fin
    case steps=>
     refine(And.intro ?o0 (And.intro ?o1 (And.intro ?o2 (And.intro ?o3 (And.intro ?o4 (And.intro ?o5 (And.intro ?o6 (And.intro ?o7 (And.intro ?o8 (And.intro ?o9 (And.intro ?o10 (And.intro ?o11 (And.intro ?o12 (And.intro ?o13 (And.intro ?o14 (And.intro ?o15 trivial))))))))))))))))
     case o0=>
      intro AA W KK QQ hB hs hd hl hk
      have sl0:=hs 0 _ (by kernel_rfl) rfl
      clear hs hd hl
      go_simp
      exact hk _ _ rfl (Below.refl _ _)
     case o1=>
      intro AA W KK QQ hB hs hd hl hk
      have sl6:=hs 6 _ (by kernel_rfl) rfl
      clear hs hd hl
      go_simp
      exact hk _ _ rfl (Below.refl _ _)
     case o2=>
      intro AA W KK QQ hB hs hd hl hk
      obtain⟨_,sl33,rfl⟩:=hd 1 33 (by kernel_rfl) rfl
      clear hs hd hl
      go_simp
      exact hk _ _ rfl (Below.refl _ _)
     case o3=>
      intro AA W KK QQ hB hs hd hl hk
      have sl4:=hs 4 _ (by kernel_rfl) rfl
      obtain⟨_,sl34,rfl⟩:=hd 2 34 (by kernel_rfl) rfl
      clear hs hd hl
      refine⟨_,_,rfl,sl34,?_⟩
      first
       | (change Oper.wp _ _ _ _ _ _;go_simp;exact hk _ _ rfl (Below.refl _ _))
       | exact rfl
     case o4=>
      intro AA W KK QQ hB hs hd hl hk
      obtain⟨_,sl34,rfl⟩:=hd 2 34 (by kernel_rfl) rfl
      obtain⟨_,sl35,rfl⟩:=hd 3 35 (by kernel_rfl) rfl
      clear hs hd hl
      have hx6:=hB.cell (p:=⟨w.heap.size,6,none⟩) hz0
      rw[e6] at hx6
      refine⟨_,_,rfl,sl34,?_⟩
      first
       | (change Oper.wp _ _ _ _ _ _;go_simp;exact hk _ _ rfl (Below.refl _ _))
       | exact rfl
     case o5=>
      intro AA W KK QQ hB hs hd hl hk
      obtain⟨_,sl34,rfl⟩:=hd 2 34 (by kernel_rfl) rfl
      obtain⟨_,sl36,rfl⟩:=hd 4 36 (by kernel_rfl) rfl
      clear hs hd hl
      refine⟨_,_,rfl,sl34,?_⟩
      first
       | (change Oper.wp _ _ _ _ _ _;go_simp;exact hk _ _ rfl (Below.refl _ _))
       | exact rfl
     case o6=>
      intro AA W KK QQ hB hs hd hl hk
      have sl4:=hs 4 _ (by kernel_rfl) rfl
      obtain⟨_,sl34,rfl⟩:=hd 2 34 (by kernel_rfl) rfl
      clear hs hd hl
      refine⟨_,_,rfl,sl34,?_⟩
      first
       | (change Oper.wp _ _ _ _ _ _;go_simp;exact hk _ _ rfl (Below.refl _ _))
       | exact rfl
     case o7=>
      intro AA W KK QQ hB hs hd hl hk
      obtain⟨_,sl34,rfl⟩:=hd 2 34 (by kernel_rfl) rfl
      obtain⟨_,sl38,rfl⟩:=hd 6 38 (by kernel_rfl) rfl
      clear hs hd hl
      have hx7:=hB.cell (p:=⟨w.heap.size,7,none⟩) hz0
      rw[e7] at hx7
      refine⟨_,_,rfl,sl34,?_⟩
      first
       | (change Oper.wp _ _ _ _ _ _;go_simp;exact hk _ _ rfl (Below.refl _ _))
       | exact rfl
     case o8=>
      intro AA W KK QQ hB hs hd hl hk
      obtain⟨_,sl34,rfl⟩:=hd 2 34 (by kernel_rfl) rfl
      obtain⟨_,sl39,rfl⟩:=hd 7 39 (by kernel_rfl) rfl
      clear hs hd hl
      refine⟨_,_,rfl,sl34,?_⟩
      first
       | (change Oper.wp _ _ _ _ _ _;go_simp;exact hk _ _ rfl (Below.refl _ _))
       | exact rfl
     case o9=>
      intro AA W KK QQ hB hs hd hl hk
      obtain⟨_,sl34,rfl⟩:=hd 2 34 (by kernel_rfl) rfl
      obtain⟨_,sl37,rfl⟩:=hd 5 37 (by kernel_rfl) rfl
      obtain⟨_,sl40,rfl⟩:=hd 8 40 (by kernel_rfl) rfl
      clear hs hd hl
      refine⟨_,_,rfl,sl34,?_⟩
      first
       | (change Oper.wp _ _ _ _ _ _;go_simp;exact hk _ _ rfl (Below.refl _ _))
       | exact rfl
     case o10=>
      intro AA W KK QQ hB hs hd hl hk
      obtain⟨_,sl34,rfl⟩:=hd 2 34 (by kernel_rfl) rfl
      obtain⟨_,sl41,rfl⟩:=hd 9 41 (by kernel_rfl) rfl
      clear hs hd hl
      refine⟨_,_,rfl,sl34,?_⟩
      first
       | (change Oper.wp _ _ _ _ _ _;go_simp;exact hk _ _ rfl (Below.refl _ _))
       | exact rfl
     case o11=>
      intro AA W KK QQ hB hs hd hl hk
      obtain⟨_,sl34,rfl⟩:=hd 2 34 (by kernel_rfl) rfl
      obtain⟨_,sl42,rfl⟩:=hd 10 42 (by kernel_rfl) rfl
      clear hs hd hl
      go_simp
      exact hk _ _ rfl (Below.refl _ _)
     case o12=>
      intro AA W KK QQ hB hs hd hl hk
      have sl4:=hs 4 _ (by kernel_rfl) rfl
      clear hs hd hl
      go_simp
      exact hk _ _ rfl (Below.refl _ _)
     case o13=>
      intro AA W KK QQ hB hs hd hl hk
      obtain⟨_,sl44,rfl⟩:=hd 12 44 (by kernel_rfl) rfl
      clear hs hd hl
      have hx7:=hB.cell (p:=⟨w.heap.size,7,none⟩) hz0
      rw[e7] at hx7
      go_simp
      exact hk _ _ rfl (Below.refl _ _)
     case o14=>
      intro AA W KK QQ hB hs hd hl hk
      obtain⟨_,sl45,rfl⟩:=hd 13 45 (by kernel_rfl) rfl
      clear hs hd hl
      go_simp
      refine(zW3 At ct tail W ((S3.hs.below (hB.mono S3.hk.size)).more (Nat.le_trans S3.hk.size hB.size)) (by omega)).mono ?_
      rintro e W2 ⟨rfl,rfl⟩
      exact hk _ _ rfl (Below.refl _ _)
     case o15=>
      intro AA W KK QQ hB hs hd hl hk
      obtain⟨_,sl43,rfl⟩:=hd 11 43 (by kernel_rfl) rfl
      obtain⟨_,sl46,rfl⟩:=hd 14 46 (by kernel_rfl) rfl
      clear hs hd hl
      go_simp
      exact hk _ _ ⟨_,rfl,Blk.new _ _ _⟩ ((Below.refl _ _).alloc (Nat.le_refl _) _)
    case fin=>
     intro wf hB GG hGG
     refine zZ0 32 rfl ?_
     refine zZ0 33 rfl ?_
     refine zZ0 34 rfl ?_
     refine zZ0 35 rfl ?_
     refine zZ0 36 rfl ?_
     refine zZ0 37 rfl ?_
     refine zZ0 38 rfl ?_
     refine zZ0 39 rfl ?_
     refine zZ0 40 rfl ?_
     refine zZ0 41 rfl ?_
     refine zZ0 42 rfl ?_
     refine zZ0 43 rfl ?_
     refine zZ0 44 rfl ?_
     refine zZ0 45 rfl ?_
     refine zZ0 46 rfl ?_
     refine zZ9 47 rfl ?_
     rintro _ ⟨p,rfl,hP⟩
     refine zT2 _ _ _ _ _ _ _ _ _ _ _ _ _ _ _ _ _ _ _ _ _ _ _ _ _ _ _ _ _ _ _ _ _ _ _ _ _ _ _ _ _ _ _ _ _ _ _ _ _ _ _ _ _ _ _ _ _ _ _ _ _ _ _ _ _ _ _ _ _ _ _ _ _ _ _ _ _ _ _ _ _ _ _ _ _ _ _ _ _ _ _ _ _ _ _ _ _ _ _ _ _ _ _ _ _ _ _ _ _ _ _ _ _ _ _ _ _ _ _ _ _ _ _ _ _ _ _ _ _ _ _ _ _ _ _ _ _ _ _ _ _ _ _ _ _ _ _ _ _ _ _ _ _ hGG ?_
     go_simp
     have Sf:=S3.below hB
     refine(yZ7 _ _ Sf.hc hP).mono ?_
     rintro e w5 ⟨rfl,hk,hc⟩
     have S5:=Sf.step HN.out hk hc
     go_wp2_with fail
     go_meet
     case rel=>exact S5.cast (by rw[←HX.out])
  ·have HX:=Lib.hid (show (true&& !zY4 tail)=blkP k m2 tail from by unfold blkP;rw[←HiS.out];rfl)
   apply zY1 (by kernel_rfl) [isv _,isv _,isv _,isv _,isv _,isv _,isv _,isv _,isv _,isv _,isv _,isv _,isv _,isv _,isv _,(fun v W=>∃ p:Nat,v=.slice (some ⟨p,0,none⟩) 2 2∧Blk W p 4 #[.bool (true),.bool (!zY4 tail)])] wc.heap.size wc (Nat.le_refl _) (Below.refl _ _).drew (by kernel_rfl) (by kernel_rfl) (by kernel_rfl) (by kernel_rfl) (by kernel_rfl) (And.intro (zZ1 _) (And.intro (zZ1 _) (And.intro (zZ1 _) (And.intro (zZ1 _) (And.intro (zZ1 _) (And.intro (zZ1 _) (And.intro (zZ1 _) (And.intro (zZ1 _) (And.intro (zZ1 _) (And.intro (zZ1 _) (And.intro (zZ1 _) (And.intro (zZ1 _) (And.intro (zZ1 _) (And.intro (zZ1 _) (And.intro (zZ1 _) (And.intro (fun _ _ _ ⟨p,e,h1⟩ hb=>⟨p,e,h1.keep hb⟩) trivial)))))))))))))))) ?steps (by rfl) _ rfl rfl ?fin
   case steps=>
    refine(And.intro ?o0 (And.intro ?o1 (And.intro ?o2 (And.intro ?o3 (And.intro ?o4 (And.intro ?o5 (And.intro ?o6 (And.intro ?o7 (And.intro ?o8 (And.intro ?o9 (And.intro ?o10 (And.intro ?o11 (And.intro ?o12 (And.intro ?o13 (And.intro ?o14 (And.intro ?o15 trivial))))))))))))))))
    case o0=>
     intro AA W KK QQ hB hs hd hl hk
     have sl0:=hs 0 _ (by kernel_rfl) rfl
     clear hs hd hl
     go_simp
     exact hk _ _ rfl (Below.refl _ _)
    case o1=>
     intro AA W KK QQ hB hs hd hl hk
     have sl6:=hs 6 _ (by kernel_rfl) rfl
     clear hs hd hl
     go_simp
     exact hk _ _ rfl (Below.refl _ _)
    case o2=>
     intro AA W KK QQ hB hs hd hl hk
     obtain⟨_,sl33,rfl⟩:=hd 1 33 (by kernel_rfl) rfl
     clear hs hd hl
     go_simp
     exact hk _ _ rfl (Below.refl _ _)
    case o3=>
     intro AA W KK QQ hB hs hd hl hk
     have sl4:=hs 4 _ (by kernel_rfl) rfl
     obtain⟨_,sl34,rfl⟩:=hd 2 34 (by kernel_rfl) rfl
     clear hs hd hl
     refine⟨_,_,rfl,sl34,?_⟩
     first
      | (change Oper.wp _ _ _ _ _ _;go_simp;exact hk _ _ rfl (Below.refl _ _))
      | exact rfl
    case o4=>
     intro AA W KK QQ hB hs hd hl hk
     obtain⟨_,sl34,rfl⟩:=hd 2 34 (by kernel_rfl) rfl
     obtain⟨_,sl35,rfl⟩:=hd 3 35 (by kernel_rfl) rfl
     clear hs hd hl
     have hx6:=hB.cell (p:=⟨w.heap.size,6,none⟩) hz0
     rw[e6] at hx6
     refine⟨_,_,rfl,sl34,?_⟩
     first
      | (change Oper.wp _ _ _ _ _ _;go_simp;exact hk _ _ rfl (Below.refl _ _))
      | exact rfl
    case o5=>
     intro AA W KK QQ hB hs hd hl hk
     obtain⟨_,sl34,rfl⟩:=hd 2 34 (by kernel_rfl) rfl
     obtain⟨_,sl36,rfl⟩:=hd 4 36 (by kernel_rfl) rfl
     clear hs hd hl
     refine⟨_,_,rfl,sl34,?_⟩
     first
      | (change Oper.wp _ _ _ _ _ _;go_simp;exact hk _ _ rfl (Below.refl _ _))
      | exact rfl
    case o6=>
     intro AA W KK QQ hB hs hd hl hk
     have sl4:=hs 4 _ (by kernel_rfl) rfl
     obtain⟨_,sl34,rfl⟩:=hd 2 34 (by kernel_rfl) rfl
     clear hs hd hl
     refine⟨_,_,rfl,sl34,?_⟩
     first
      | (change Oper.wp _ _ _ _ _ _;go_simp;exact hk _ _ rfl (Below.refl _ _))
      | exact rfl
    case o7=>
     intro AA W KK QQ hB hs hd hl hk
     obtain⟨_,sl34,rfl⟩:=hd 2 34 (by kernel_rfl) rfl
     obtain⟨_,sl38,rfl⟩:=hd 6 38 (by kernel_rfl) rfl
     clear hs hd hl
     have hx7:=hB.cell (p:=⟨w.heap.size,7,none⟩) hz0
     rw[e7] at hx7
     refine⟨_,_,rfl,sl34,?_⟩
     first
      | (change Oper.wp _ _ _ _ _ _;go_simp;exact hk _ _ rfl (Below.refl _ _))
      | exact rfl
    case o8=>
     intro AA W KK QQ hB hs hd hl hk
     obtain⟨_,sl34,rfl⟩:=hd 2 34 (by kernel_rfl) rfl
     obtain⟨_,sl39,rfl⟩:=hd 7 39 (by kernel_rfl) rfl
     clear hs hd hl
     refine⟨_,_,rfl,sl34,?_⟩
     first
      | (change Oper.wp _ _ _ _ _ _;go_simp;exact hk _ _ rfl (Below.refl _ _))
      | exact rfl
    case o9=>
     intro AA W KK QQ hB hs hd hl hk
     obtain⟨_,sl34,rfl⟩:=hd 2 34 (by kernel_rfl) rfl
     obtain⟨_,sl37,rfl⟩:=hd 5 37 (by kernel_rfl) rfl
     obtain⟨_,sl40,rfl⟩:=hd 8 40 (by kernel_rfl) rfl
     clear hs hd hl
     refine⟨_,_,rfl,sl34,?_⟩
     first
      | (change Oper.wp _ _ _ _ _ _;go_simp;exact hk _ _ rfl (Below.refl _ _))
      | exact rfl
    case o10=>
     intro AA W KK QQ hB hs hd hl hk
     obtain⟨_,sl34,rfl⟩:=hd 2 34 (by kernel_rfl) rfl
     obtain⟨_,sl41,rfl⟩:=hd 9 41 (by kernel_rfl) rfl
     clear hs hd hl
     refine⟨_,_,rfl,sl34,?_⟩
     first
      | (change Oper.wp _ _ _ _ _ _;go_simp;exact hk _ _ rfl (Below.refl _ _))
      | exact rfl
    case o11=>
     intro AA W KK QQ hB hs hd hl hk
     obtain⟨_,sl34,rfl⟩:=hd 2 34 (by kernel_rfl) rfl
     obtain⟨_,sl42,rfl⟩:=hd 10 42 (by kernel_rfl) rfl
     clear hs hd hl
     go_simp
     exact hk _ _ rfl (Below.refl _ _)
    case o12=>
     intro AA W KK QQ hB hs hd hl hk
     have sl4:=hs 4 _ (by kernel_rfl) rfl
     clear hs hd hl
     go_simp
     exact hk _ _ rfl (Below.refl _ _)
    case o13=>
     intro AA W KK QQ hB hs hd hl hk
     obtain⟨_,sl44,rfl⟩:=hd 12 44 (by kernel_rfl) rfl
     clear hs hd hl
     have hx7:=hB.cell (p:=⟨w.heap.size,7,none⟩) hz0
     rw[e7] at hx7
     go_simp
     exact hk _ _ rfl (Below.refl _ _)
    case o14=>
     intro AA W KK QQ hB hs hd hl hk
     obtain⟨_,sl45,rfl⟩:=hd 13 45 (by kernel_rfl) rfl
     clear hs hd hl
     go_simp
     refine(zW3 At ct tail W ((S3.hs.below (hB.mono S3.hk.size)).more (Nat.le_trans S3.hk.size hB.size)) (by omega)).mono ?_
     rintro e W2 ⟨rfl,rfl⟩
     exact hk _ _ rfl (Below.refl _ _)
    case o15=>
     intro AA W KK QQ hB hs hd hl hk
     obtain⟨_,sl43,rfl⟩:=hd 11 43 (by kernel_rfl) rfl
     obtain⟨_,sl46,rfl⟩:=hd 14 46 (by kernel_rfl) rfl
     clear hs hd hl
     go_simp
     exact hk _ _ ⟨_,rfl,Blk.new _ _ _⟩ ((Below.refl _ _).alloc (Nat.le_refl _) _)
   case fin=>
    intro wf hB GG hGG
    refine zZ0 32 rfl ?_
    refine zZ0 33 rfl ?_
    refine zZ0 34 rfl ?_
    refine zZ0 35 rfl ?_
    refine zZ0 36 rfl ?_
    refine zZ0 37 rfl ?_
    refine zZ0 38 rfl ?_
    refine zZ0 39 rfl ?_
    refine zZ0 40 rfl ?_
    refine zZ0 41 rfl ?_
    refine zZ0 42 rfl ?_
    refine zZ0 43 rfl ?_
    refine zZ0 44 rfl ?_
    refine zZ0 45 rfl ?_
    refine zZ0 46 rfl ?_
    refine zZ9 47 rfl ?_
    rintro _ ⟨p,rfl,hP⟩
    refine zT2 _ _ _ _ _ _ _ _ _ _ _ _ _ _ _ _ _ _ _ _ _ _ _ _ _ _ _ _ _ _ _ _ _ _ _ _ _ _ _ _ _ _ _ _ _ _ _ _ _ _ _ _ _ _ _ _ _ _ _ _ _ _ _ _ _ _ _ _ _ _ _ _ _ _ _ _ _ _ _ _ _ _ _ _ _ _ _ _ _ _ _ _ _ _ _ _ _ _ _ _ _ _ _ _ _ _ _ _ _ _ _ _ _ _ _ _ _ _ _ _ _ _ _ _ _ _ _ _ _ _ _ _ _ _ _ _ _ _ _ _ _ _ _ _ _ _ _ _ _ _ _ _ _ hGG ?_
    go_simp
    have Sf:=S3.below hB
    refine(yZ7 _ _ Sf.hc hP).mono ?_
    rintro e w5 ⟨rfl,hk,hc⟩
    have S5:=Sf.step HN.out hk hc
    go_wp2_with fail
    go_meet
    case rel=>exact S5.cast (by rw[←HX.out])
 clear e0 e1 e2 e3 e4 e5 e6 e7 e8 p0 p1 p2 p3
 have S4:=hcut
 clear hcut S3
 obtain⟨e0,e1,e2,e3,e4,e5,e6,e7,e8⟩:=zZ6 S4.he
 obtain⟨p0,p1,p2,p3⟩:=posC S4.hp
 cases h10:((k:Int) == 10)
 rotate_left
 ·go_wp2_with fail
  refine(yW9 g wr _ dp k t n a b As m cs Ad m2 cd At tail.length ct pos _ S4.hc S4.hg HT.out).mono ?_
  rintro e w5 ⟨rfl,hk,hc⟩
  have S5:=S4.step HN.out hk hc
  clear hk hc
  go_wp2
  refine bodyPost_ret (results_none rfl _ _ _) rfl ?_
  exact⟨rfl,S5.hk,ck_z S5.hc (by rw[HZ.out];unfold ownQ;rw[if_pos (beq_iff_eq.1 h10)];simp only[Bool.and_assoc])⟩
 go_upto_block 0 with fail
 go_cut [] from 50 to 86 (fun wx=>OwnSt w g (wr|| !(((((acc&&kOk k)&&yW7 k n m)&&yW8 k t)&&blkP k m2 tail)&&numP k n)) dp #[.int .i64 k,.string ⟨t.toArray⟩,.int .i64 n,.string ⟨a.toArray⟩,.string ⟨b.toArray⟩,.slice As m cs,.slice Ad m2 cd,.slice At tail.length ct,.int .i64 pos] #[.bool cj,.bool io,.bool il,.int .i64 lv] At tail wx)
 case first=>
  cases h2:((k:Int) == 2)
  ·cases h14:((k:Int) == 14)
   ·cases h3:((k:Int) == 3)
    ·have HX:=Lib.hid (show ((n:Int) == 0)=numP k n from by
      unfold numP
      rw[if_neg (by simp only[beq_eq_false_iff_ne,ne_eq] at h2 h14;omega),if_neg (beq_eq_false_iff_ne.1 h3)]
      rfl)
     go_wp2_with (refine(zR4 _ S4.hc).mono ?_;rintro e w5 ⟨rfl,hk,hc⟩;have S5:=(S4.below ((Below.refl _ _).alloc (Nat.le_refl _) _)).step HN.out hk hc;clear hk hc)
     go_meet
     case rel=>exact S5.cast (by rw[←HX.out])
    ·have hz0:w.heap.size < wc.heap.size:=S4.he.lt
     have HX:=Lib.hid (show (decide ((0:Int)≤n)&&(decide ((-1000000000000000:Int)≤n)&&decide (n≤1000000000000000)))=numP k n from by
      unfold numP
      rw[if_neg (by simp only[beq_eq_false_iff_ne,ne_eq] at h2 h14;omega),if_pos (beq_iff_eq.1 h3)])
     obtain⟨V,hV⟩:∃ V,V=(decide ((-1000000000000000:Int)≤n)&&decide (n≤1000000000000000)):=⟨_,rfl⟩
     have cV:=fun W=>yA2 n W
     rw[←hV] at cV
     have HV:=Lib.hid hV
     have CV:=Lib.hid cV
     clear hV cV
     go_upto_region 14 with fail
     apply zY1 (by kernel_rfl) [isv _,isv _,isv _,isv _,isv _,isv _,isv _,(fun v W=>∃ p:Nat,v=.slice (some ⟨p,0,none⟩) 2 2∧Blk W p 4 #[.bool (decide ((0:Int)≤n)),.bool (V)])] wc.heap.size wc (Nat.le_refl _) (Below.refl _ _).drew (by kernel_rfl) (by kernel_rfl) (by kernel_rfl) (by kernel_rfl) (by kernel_rfl) (And.intro (zZ1 _) (And.intro (zZ1 _) (And.intro (zZ1 _) (And.intro (zZ1 _) (And.intro (zZ1 _) (And.intro (zZ1 _) (And.intro (zZ1 _) (And.intro (fun _ _ _ ⟨p,e,h1⟩ hb=>⟨p,e,h1.keep hb⟩) trivial)))))))) ?steps (by rfl) _ rfl rfl ?fin
     case steps=>
      refine(And.intro ?o0 (And.intro ?o1 (And.intro ?o2 (And.intro ?o3 (And.intro ?o4 (And.intro ?o5 (And.intro ?o6 (And.intro ?o7 trivial))))))))
      case o0=>
       intro AA W KK QQ hB hs hd hl hk
       have sl0:=hs 0 _ (by kernel_rfl) rfl
       clear hs hd hl
       go_simp
       exact hk _ _ rfl (Below.refl _ _)
      case o1=>
       intro AA W KK QQ hB hs hd hl hk
       have sl4:=hs 4 _ (by kernel_rfl) rfl
       clear hs hd hl
       go_simp
       exact hk _ _ rfl (Below.refl _ _)
      case o2=>
       intro AA W KK QQ hB hs hd hl hk
       obtain⟨_,sl79,rfl⟩:=hd 1 79 (by kernel_rfl) rfl
       clear hs hd hl
       have hx2:=hB.cell (p:=⟨w.heap.size,2,none⟩) hz0
       rw[e2] at hx2
       go_simp
       exact hk _ _ rfl (Below.refl _ _)
      case o3=>
       intro AA W KK QQ hB hs hd hl hk
       obtain⟨_,sl80,rfl⟩:=hd 2 80 (by kernel_rfl) rfl
       clear hs hd hl
       go_simp
       exact hk _ _ rfl (Below.refl _ _)
      case o4=>
       intro AA W KK QQ hB hs hd hl hk
       have sl4:=hs 4 _ (by kernel_rfl) rfl
       clear hs hd hl
       go_simp
       exact hk _ _ rfl (Below.refl _ _)
      case o5=>
       intro AA W KK QQ hB hs hd hl hk
       obtain⟨_,sl82,rfl⟩:=hd 4 82 (by kernel_rfl) rfl
       clear hs hd hl
       have hx2:=hB.cell (p:=⟨w.heap.size,2,none⟩) hz0
       rw[e2] at hx2
       go_simp
       exact hk _ _ rfl (Below.refl _ _)
      case o6=>
       intro AA W KK QQ hB hs hd hl hk
       obtain⟨_,sl83,rfl⟩:=hd 5 83 (by kernel_rfl) rfl
       clear hs hd hl
       go_simp
       refine(CV.out W).mono ?_
       rintro e W2 ⟨rfl,rfl⟩
       exact hk _ _ rfl (Below.refl _ _)
      case o7=>
       intro AA W KK QQ hB hs hd hl hk
       obtain⟨_,sl81,rfl⟩:=hd 3 81 (by kernel_rfl) rfl
       obtain⟨_,sl84,rfl⟩:=hd 6 84 (by kernel_rfl) rfl
       clear hs hd hl
       go_simp
       exact hk _ _ ⟨_,rfl,Blk.new _ _ _⟩ ((Below.refl _ _).alloc (Nat.le_refl _) _)
     case fin=>
      intro wf hB GG hGG
      refine zZ0 78 rfl ?_
      refine zZ0 79 rfl ?_
      refine zZ0 80 rfl ?_
      refine zZ0 81 rfl ?_
      refine zZ0 82 rfl ?_
      refine zZ0 83 rfl ?_
      refine zZ0 84 rfl ?_
      refine zZ9 85 rfl ?_
      rintro _ ⟨p,rfl,hP⟩
      refine zS0 _ _ _ _ _ _ _ _ _ _ _ _ _ _ _ _ _ _ _ _ _ _ _ _ _ _ _ _ _ _ _ _ _ _ _ _ _ _ _ _ _ _ _ _ _ _ _ _ _ _ _ _ _ _ _ _ _ _ _ _ _ _ _ _ _ _ _ _ _ _ _ _ _ _ _ _ _ _ _ _ _ _ _ _ _ _ _ _ _ _ _ _ _ _ _ _ _ _ _ _ _ _ _ _ _ _ _ _ _ _ _ _ _ _ _ _ _ _ _ _ _ _ _ _ _ _ _ _ _ _ _ _ _ _ _ _ _ _ _ _ _ _ _ _ _ hGG ?_
      go_simp
      have Sf:=S4.below hB
      refine(yZ7 _ _ Sf.hc hP).mono ?_
      rintro e w5 ⟨rfl,hk,hc⟩
      have S5:=Sf.step HN.out hk hc
      go_wp2_with fail
      go_meet
      case rel=>exact S5.cast (by rw[←HX.out,HV.out])
   ·cases hn0:((n:Int) == 0)
    all_goals cases hn1:((n:Int) == 1)
    all_goals
     go_wp2_with (refine(zR4 _ S4.hc).mono ?_;rintro e w5 ⟨rfl,hk,hc⟩;have S5:=(S4.below ((Below.refl _ _).alloc (Nat.le_refl _) _)).step HN.out hk hc;clear hk hc)
     go_meet
     case rel=>exact S5.cast (by rw[show numP k n=_ from by unfold numP;rw[if_pos (.inr (beq_iff_eq.1 h14))]];simp only[beq_iff_eq,beq_eq_false_iff_ne] at hn0 hn1;simp[hn0,hn1])
  ·cases hn0:((n:Int) == 0)
   all_goals cases hn1:((n:Int) == 1)
   all_goals
    go_wp2_with (refine(zR4 _ S4.hc).mono ?_;rintro e w5 ⟨rfl,hk,hc⟩;have S5:=(S4.below ((Below.refl _ _).alloc (Nat.le_refl _) _)).step HN.out hk hc;clear hk hc)
    go_meet
    case rel=>exact S5.cast (by rw[show numP k n=_ from by unfold numP;rw[if_pos (.inl (beq_iff_eq.1 h2))]];simp only[beq_iff_eq,beq_eq_false_iff_ne] at hn0 hn1;simp[hn0,hn1])
 clear e0 e1 e2 e3 e4 e5 e6 e7 e8 p0 p1 p2 p3
 have S5:=hcut
 clear hcut S4
 obtain⟨e0,e1,e2,e3,e4,e5,e6,e7,e8⟩:=zZ6 S5.he
 obtain⟨p0,p1,p2,p3⟩:=posC S5.hp
 go_upto_if 89 with fail
 generalize hb15:((k:Int) == 15)=b15
 have H15:=Lib.hid hb15
 clear hb15
 go_cut [] from 90 to 101 (fun wx=>OwnSt w g (wr|| !((((((acc&&kOk k)&&yW7 k n m)&&yW8 k t)&&blkP k m2 tail)&&numP k n)&&nmP k a b)) dp #[.int .i64 k,.string ⟨t.toArray⟩,.int .i64 n,.string ⟨a.toArray⟩,.string ⟨b.toArray⟩,.slice As m cs,.slice Ad m2 cd,.slice At tail.length ct,.int .i64 pos] #[.bool cj,.bool io,.bool il,.int .i64 lv] At tail wx)
 case first=>
  cases b15
  ·go_wp2_with (first
    | (refine(yW4 a b _).mono ?_;rintro e w6 ⟨rfl,hb⟩;have S5b:=S5.below hb;clear hb)
    | (refine(zR4 _ S5b.hc).mono ?_;rintro e w7 ⟨rfl,hk,hc⟩;have S6:=(S5b.below ((Below.refl _ _).alloc (Nat.le_refl _) _)).step HN.out hk hc;clear hk hc))
   all_goals
    go_meet
    case rel=>exact S6.cast (by rw[show nmP k a b=_ from by unfold nmP;rw[if_neg (beq_eq_false_iff_ne.1 H15.out)]];simp)
  ·go_wp2_with (first
    | (refine(yZ5 a b _ HA.out HB.out).mono ?_;rintro e w6 ⟨rfl,hb⟩;have S5b:=S5.below hb;clear hb)
    | (refine(zR4 _ S5b.hc).mono ?_;rintro e w7 ⟨rfl,hk,hc⟩;have S6:=(S5b.below ((Below.refl _ _).alloc (Nat.le_refl _) _)).step HN.out hk hc;clear hk hc))
   all_goals
    go_meet
    case rel=>exact S6.cast (by rw[show nmP k a b=_ from by unfold nmP;rw[if_pos (beq_iff_eq.1 H15.out)]])
 clear e0 e1 e2 e3 e4 e5 e6 e7 e8 p0 p1 p2 p3
 have S6:=hcut
 clear hcut S5
 obtain⟨e0,e1,e2,e3,e4,e5,e6,e7,e8⟩:=zZ6 S6.he
 obtain⟨p0,p1,p2,p3⟩:=posC S6.hp
 go_upto_region 18 with fail
 go_cut [] from 102 to 118 (fun wx=>OwnSt w g (wr|| !(((((((acc&&kOk k)&&yW7 k n m)&&yW8 k t)&&blkP k m2 tail)&&numP k n)&&nmP k a b)&&mkP k io il)) dp #[.int .i64 k,.string ⟨t.toArray⟩,.int .i64 n,.string ⟨a.toArray⟩,.string ⟨b.toArray⟩,.slice As m cs,.slice Ad m2 cd,.slice At tail.length ct,.int .i64 pos] #[.bool cj,.bool io,.bool il,.int .i64 lv] At tail wx)
 case first=>
  cases io <;> cases il
  all_goals
   go_wp2_with (refine(must2 _ _ S6.hc).mono ?_;rintro e w7 ⟨rfl,hk,hc⟩;have S7:=(S6.below ((Below.refl _ _).alloc (Nat.le_refl _) _)).step HN.out hk hc;clear hk hc)
   go_meet
   case rel=>exact S7.cast (by unfold mkP;simp)
 clear e0 e1 e2 e3 e4 e5 e6 e7 e8 p0 p1 p2 p3
 have S7:=hcut
 clear hcut S6
 obtain⟨e0,e1,e2,e3,e4,e5,e6,e7,e8⟩:=zZ6 S7.he
 obtain⟨p0,p1,p2,p3⟩:=posC S7.hp
 cases cj
 all_goals
  go_wp2_with (refine(must2 _ _ S7.hc).mono ?_;rintro e w8 ⟨rfl,hk,hc⟩;have S8:=(S7.below ((Below.refl _ _).alloc (Nat.le_refl _) _)).step HN.out hk hc;clear hk hc)
  go_end0
  exact⟨rfl,S8.hk,ck_z S8.hc (by rw[HZ.out];unfold ownQ;rw[if_neg (beq_eq_false_iff_ne.1 h10)];unfold cjP;simp[Bool.and_assoc])⟩
end Go.Proofs.YtdgehhgjgifikaaGreatDoor
