/- What the claim needs of:YI. -/
import Derived.Test.YtdgehhgjgifikaaGreatDoorK7
namespace Go.Proofs.YtdgehhgjgifikaaGreatDoor
open Go.RowKit
theorem zS1 {w:World}{g:Nat}{ty:TypeId}{v0 v1 v2 v3 v4 v5 v6 v7 v8 v9 v10:Value}(h:Blk w g ty #[v0,v1,v2,v3,v4,v5,v6,v7,v8,v9,v10]) :
  w.cell? ⟨g,0,none⟩=some v0∧w.cell? ⟨g,1,none⟩=some v1∧w.cell? ⟨g,2,none⟩=some v2∧w.cell? ⟨g,3,none⟩=some v3∧w.cell? ⟨g,4,none⟩=some v4∧w.cell? ⟨g,5,none⟩=some v5∧w.cell? ⟨g,6,none⟩=some v6∧w.cell? ⟨g,7,none⟩=some v7∧w.cell? ⟨g,8,none⟩=some v8∧w.cell? ⟨g,9,none⟩=some v9∧w.cell? ⟨g,10,none⟩=some v10:=
 ⟨h.cell 0,h.cell 1,h.cell 2,h.cell 3,h.cell 4,h.cell 5,h.cell 6,h.cell 7,h.cell 8,h.cell 9,h.cell 10⟩
structure DeclSt (w:World)(g:Nat)(X dp:Bool)(D:Array Value)(Al:Option Addr)(lead:List Tx)(At:Option Addr)(tail:List Tx)(wx:World):Prop where
 hk:Kp (· = g) w wx
 hc:CkAt wx g X dp
 hd:Blk wx w.heap.size 71 D
 hl:Sl wx w.heap.size 1 encS Al lead
 ht:Sl wx w.heap.size 1 encS At tail
 hg:Glob wx
section
variable {w wx wy:World}{g:Nat}{X Y dp dp':Bool}{D:Array Value}{Al At:Option Addr}{lead tail:List Tx}
theorem DeclSt.ne (h:DeclSt w g X dp D Al lead At tail wx):w.heap.size≠g:=fun e=>by
 have h1:=h.hc;unfold CkAt at h1;rw[←e] at h1;have:=(h.hd.inj h1).1;revert this;decide
theorem DeclSt.below (h:DeclSt w g X dp D Al lead At tail wx)(hb:Below wx.heap.size wx wy):DeclSt w g X dp D Al lead At tail wy:=
 ⟨h.hk.below hb,h.hc.keep hb,h.hd.keep hb,h.hl.below (hb.mono h.hk.size),h.ht.below (hb.mono h.hk.size),h.hg.keep hb⟩
theorem DeclSt.step (h:DeclSt w g X dp D Al lead At tail wx)(hnl:lead=[]∨∀ a,Al=some a→a.block≠g)(hnt:tail=[]∨∀ a,At=some a→a.block≠g)(hk:Kp (· = g) wx wy)(hc:CkAt wy g Y dp'):DeclSt w g Y dp' D Al lead At tail wy:=
 ⟨h.hk.trans hk,hc,hk.blk h.hd h.ne,(by
  rcases hnl with rfl | hn
  ·exact Sl.nil_
  ·exact hk.sl h.hl h.hk.size (fun b hb=>by
    cases Al with
    | none=>cases hb
    | some a=>
      injection hb with hb
      subst hb;exact hn a rfl)),(by
  rcases hnt with rfl | hn
  ·exact Sl.nil_
  ·exact hk.sl h.ht h.hk.size (fun b hb=>by
    cases At with
    | none=>cases hb
    | some a=>
      injection hb with hb
      subst hb;exact hn a rfl)),h.hg.keepK h.hc hk⟩
theorem DeclSt.cast (h:DeclSt w g X dp D Al lead At tail wx)(e:X=Y):DeclSt w g Y dp D Al lead At tail wx:=e▸h
theorem DeclSt.castD {Y:Bool}(h:DeclSt w g X dp D Al lead At tail wx)(e:dp=Y):DeclSt w g X Y D Al lead At tail wx:=e▸h
end
def RetRx (q:Bool)(w:World)(e:Ending)(w':World):Prop:=∃ (v0 v1 v2 v3 v4:Int) (A:Option Addr) (n c:Nat) (er pos:Int),e=.returned (.tuple #[.agg #[.int .i64 v0,.int .u64 v1,.int .u64 v2,.int .u64 v3,.int .u64 v4,.slice A n c],.agg #[.int .i64 er,.int .i64 pos]])∧(er == 0)=q∧Below w.heap.size w w'
def RxOk (rx:Tx→Bool)(l:Tx):Prop:=∀ w,Glob w→Calls Tryz.prog 169 #[.string ⟨l.toArray⟩] w (RetRx (rx l) w)
def kD (k:Int):Bool:=decide (1≤k)&&decide (k≤8)
def blD (k:Int):Bool:=(k == 5)||(k == 6)
def lnD (k:Int)(m2:Nat)(lead tail:List Tx)(trail:Tx):Bool:=!zY2 lead&&(!zY2 tail&&(!zY2 [trail]&&(blD k||((m2:Int)+(tail.length:Int) == 0))))
def prD (k p:Int):Bool:=if k=1 then decide (1≤p)&&decide (p≤3) else(p == 0)
def lbD (rx:Tx→Bool)(k:Int)(l:Tx)(sc:Bool):Bool:=if k=1 then true else if k=2 then rx l else if k=4 then sc&&zY7 l else l.isEmpty&&(sc||(k != 8))
def nmD (k:Int)(a b:Tx):Bool:=if k=6 then yY7 a b else decide (a=[]∧b=[])
def yK6 (k:Int):Int:=if k=7 then 2 else if k=8 then 0 else 1
def wnD (k:Int)(m:Nat):Bool:=((m:Int) == yK6 k)
def owD (k:Int):Bool:=(k == 1)||(k == 2)||(k == 3)||(k == 4)
def yY0 (rx:Tx→Bool)(k p:Int)(l a b:Tx)(m m2:Nat)(tail lead:List Tx)(trail:Tx)(sc:Bool):Bool:=
 kD k&&lnD k m2 lead tail trail&&prD k p&&lbD rx k l sc&&nmD k a b&&wnD k m
theorem yH5 (rx:Tx→Bool)(k p:Int)(l a b:Tx)(m m2:Nat)(tail lead:List Tx)(trail:Tx)(sc:Bool) :
  yY0 rx k p l a b m m2 tail lead trail sc=(yP6 rx k p l a b m m2 tail lead trail&&(sc|| !decide (k=4∨k=8))):=by
 by_cases hr:1≤k∧k≤8
 rotate_left
 ·have h1:kD k=false:=by
   unfold kD;rw[Bool.and_eq_false_iff];simp only[decide_eq_false_iff_not];omega
  unfold yY0 yP6;rw[h1,decide_eq_false hr];simp
 ·have h1:kD k=true:=by
   unfold kD;rw[decide_eq_true hr.1,decide_eq_true hr.2];rfl
  unfold yY0 yP6 lnD;rw[h1,decide_eq_true hr];have hk:k=1∨k=2∨k=3∨k=4∨k=5∨k=6∨k=7∨k=8:=by omega
  have hl:=xY2 m2 tail;have hl2:((m2:Int)+(tail.length:Int) == 0)=decide (m2=0∧tail=[]):=by
   rw[show ((m2:Int)+(tail.length:Int) == 0)=decide ((m2:Int)+(tail.length:Int)=0) from rfl,decide_eq_decide];exact hl
  rw[hl2];generalize zY2 tail=L1;generalize zY2 lead=L2;generalize zY2 [trail]=L3;clear h1 hr hl hl2;rcases hk with rfl | rfl | rfl | rfl | rfl | rfl | rfl | rfl
  all_goals
   rw[Bool.eq_iff_iff];simp[blD,prD,lbD,nmD,wnD,yK6,and_assoc]
  all_goals
   first
   | (intro h0
      constructor <;> intro h <;> simp_all <;> omega)
   | (constructor <;> intro h <;> simp_all <;> omega)
theorem okD_mk (rx:Tx→Bool)(k p:Int)(l a b:Tx)(As:Option Addr)(cs:Nat)(subs:List EA)(Ab:Option Addr)(cb:Nat)(body:List DA)(At:Option Addr)(ct:Nat)(tail:List Tx)(Al:Option Addr)(cl:Nat)(lead:List Tx)(trail:Tx)(pos:Int)(sc:Bool) :
  okD rx sc (plD (.mk k p l a b As cs subs Ab cb body At ct tail Al cl lead trail pos))=(yY0 rx k p l a b subs.length body.length tail lead trail sc&&(subs.zipIdx.all fun q:EA × Nat=>okE rx (plE q.1) (sc&&owD k&&decide (q.2=0)) false false)&&okDs rx false (plDs body)):=by
 have e1:(plEs subs).length=subs.length:=by rw[zX9,List.length_map]
 have e2:(plDs body).length=body.length:=by rw[zX3,List.length_map]
 rw[plD,okD,e1,e2];cases hq:yY0 rx k p l a b subs.length body.length tail lead trail sc with
 | false=>
   rw[yH5] at hq;rw[hq];simp
 | true=>
   have hq2:=hq;rw[yH5] at hq2;rw[hq2];have hw:wnD k subs.length=true:=by
    unfold yY0 at hq;simp only[Bool.and_eq_true] at hq;exact hq.2
   have ho:(sc&&decide (k=1∨k=2∨k=3∨k=4))=(sc&&owD k):=by
    congr 1;unfold owD;rw[Bool.eq_iff_iff];simp[or_assoc]
   rw[ho];have hde:okDE rx (sc&&owD k) (plEs subs)=subs.zipIdx.all fun q:EA × Nat=>okE rx (plE q.1) (sc&&owD k&&decide (q.2=0)) false false:=by
    cases how:sc&&owD k with
    | false=>
      rw[show okDE rx false (plEs subs)=(subs.all fun x=>okE rx (plE x) false false false) from by
       clear e1 hq hq2 hw;induction subs with
       | nil=>rfl
       | cons x r ih=>rw[plEs,okDE,ih,List.all_cons]]
      rw[show (fun q:EA × Nat=>okE rx (plE q.1) (false&&decide (q.2=0)) false false)=fun q=>okE rx (plE q.1) false false false from rfl];have:∀ (i:Nat) (r:List EA),((r.zipIdx i).all fun q:EA × Nat=>okE rx (plE q.1) false false false)=r.all fun x=>okE rx (plE x) false false false:=by
       intro i r;induction r generalizing i with
       | nil=>rfl
       | cons x r ih=>rw[List.zipIdx_cons,List.all_cons,List.all_cons,ih]
      rw[this]
    | true=>
      have hk:owD k=true:=by
       simp only[Bool.and_eq_true] at how;exact how.2
      have hm:subs.length=1:=by
       unfold owD at hk;unfold wnD yK6 at hw;simp only[Bool.or_eq_true,beq_iff_eq] at hk;rw[if_neg qG,if_neg qG] at hw;simp only[beq_iff_eq] at hw;omega
      obtain⟨x,rfl⟩:=List.length_eq_one_iff.1 hm;simp[plEs,okDE]
   rw[hde];simp only[Bool.true_and];rw[Bool.and_comm]
theorem fD_pl (k p:Int)(l a b:Tx)(As:Option Addr)(cs:Nat)(subs:List EA)(Ab:Option Addr)(cb:Nat)(body:List DA)(At:Option Addr)(ct:Nat)(tail:List Tx)(Al:Option Addr)(cl:Nat)(lead:List Tx)(trail:Tx)(pos lv:Int) :
  fD (plD (.mk k p l a b As cs subs Ab cb body At ct tail Al cl lead trail pos)) lv=(decide (16 < lv)||(subs.any fun x=>fE (plE x) (lv+1))||(plDs body).any fun d=>fD d (lv+1)):=by
 rw[plD,fD_mk,zX9,List.any_map];rfl
set_option maxRecDepth 100000 in
theorem zJ7 {o:Oper}{P:Program}{Q:Exit→Act→World→Prop}{K:Act→World→Prop}{W:World}{fs:List Fact}{G:Act→Prop}{aa ab ac ad ae af ag ah ai aj ak al am an ao ap aq ar au av aw ax ay az aA aB aC aD aE aF aG aH aI aJ aK aL aM aN aO aP aQ aR aS aT aU aV aW aX aY aZ a0 a1 a2 a3 a4 a5 a6 a7 a8 a9 ba bb bc bd be bf bg bh bi bj bk bl bm bn bo bp bq br bs bt bu bv bw bx bz bA bB bC bD bE bF bG bH bI bJ bK bL bM bN bO bP bQ bR bS bT bU bV bW bX bY bZ b0 b1 b2 b3 b4 b5 b6 b7 b8 b9 ca cb cc cd ce cf cg ch ci cj ck cl cm cn co cp cq cr cs ct cu cv cw cx cy cz cA cB cC cD cE cF cG cH cI cJ cK cL cM cN cO cP cQ cR cS cT cU cV cW cX cY cZ c0 c1 c2 c3 c4 c5 c6 c7 c8 c9 da db dc dd de df dg dh di dj dk dl dm dn dp dq dr ds dt du dv dw dx dy dz dA dB dC dD dE dF dG dH dI dJ dK dL dM dN:Value}(hG:∀ A,o.wp P A W K Q→G A)(h:o.wp P (Act.mk #[aa,ab,ac,ad,ae,af,ag,ah,ai,aj,ak,al,am,an,ao,ap,aq,ar,au,av,aw,ax,ay,az,aA,aB,aC,aD,aE,aF,aG,aH,aI,aJ,aK,aL,aM,aN,aO,dr,ds,dt,du,dv,dw,dx,dy,dz,dA,dB,dC,dD,dE,dF,dG,dH,dI,dJ,dK,dL,dM,dN,bc,bd,be,bf,bg,bh,bi,bj,bk,bl,bm,bn,bo,bp,bq,br,bs,bt,bu,bv,bw,bx,bz,bA,bB,bC,bD,bE,bF,bG,bH,bI,bJ,bK,bL,bM,bN,bO,bP,bQ,bR,bS,bT,bU,bV,bW,bX,bY,bZ,b0,b1,b2,b3,b4,b5,b6,b7,b8,b9,ca,cb,cc,cd,ce,cf,cg,ch,ci,cj,ck,cl,cm,cn,co,cp,cq,cr,cs,ct,cu,cv,cw,cx,cy,cz,cA,cB,cC,cD,cE,cF,cG,cH,cI,cJ,cK,cL,cM,cN,cO,cP,cQ,cR,cS,cT,cU,cV,cW,cX,cY,cZ,c0,c1,c2,c3,c4,c5,c6,c7,c8,c9,da,db,dc,dd,de,df,dg,dh,di,dj,dk,dl,dm,dn,dp,dq] []) W K Q):zY0 W G [] fs (Act.put (Act.put (Act.put (Act.put (Act.put (Act.put (Act.put (Act.put (Act.put (Act.put (Act.put (Act.put (Act.put (Act.put (Act.put (Act.put (Act.put (Act.put (Act.put (Act.put (Act.put (Act.put (Act.put (Act.mk #[aa,ab,ac,ad,ae,af,ag,ah,ai,aj,ak,al,am,an,ao,ap,aq,ar,au,av,aw,ax,ay,az,aA,aB,aC,aD,aE,aF,aG,aH,aI,aJ,aK,aL,aM,aN,aO,aP,aQ,aR,aS,aT,aU,aV,aW,aX,aY,aZ,a0,a1,a2,a3,a4,a5,a6,a7,a8,a9,ba,bb,bc,bd,be,bf,bg,bh,bi,bj,bk,bl,bm,bn,bo,bp,bq,br,bs,bt,bu,bv,bw,bx,bz,bA,bB,bC,bD,bE,bF,bG,bH,bI,bJ,bK,bL,bM,bN,bO,bP,bQ,bR,bS,bT,bU,bV,bW,bX,bY,bZ,b0,b1,b2,b3,b4,b5,b6,b7,b8,b9,ca,cb,cc,cd,ce,cf,cg,ch,ci,cj,ck,cl,cm,cn,co,cp,cq,cr,cs,ct,cu,cv,cw,cx,cy,cz,cA,cB,cC,cD,cE,cF,cG,cH,cI,cJ,cK,cL,cM,cN,cO,cP,cQ,cR,cS,cT,cU,cV,cW,cX,cY,cZ,c0,c1,c2,c3,c4,c5,c6,c7,c8,c9,da,db,dc,dd,de,df,dg,dh,di,dj,dk,dl,dm,dn,dp,dq] []) (some 39) dr) (some 40) ds) (some 41) dt) (some 42) du) (some 43) dv) (some 44) dw) (some 45) dx) (some 46) dy) (some 47) dz) (some 48) dA) (some 49) dB) (some 50) dC) (some 51) dD) (some 52) dE) (some 53) dF) (some 54) dG) (some 55) dH) (some 56) dI) (some 57) dJ) (some 58) dK) (some 59) dL) (some 60) dM) (some 61) dN):=
 zV2 qF hG h
set_option maxRecDepth 100000 in
set_option maxHeartbeats 16000000 in
theorem decl_any (rx:Tx→Bool)(w0:World)(B:Nat)(k p:Int)(l a b:Tx)(As:Option Addr)(cs:Nat)(subs:List EA)(Ab:Option Addr)(cb:Nat)(body:List DA)(At:Option Addr)(ct:Nat)(tail:List Tx)(Al:Option Addr)(cl:Nat)(lead:List Tx)(trail:Tx)(pos:Int)
  (hO:OkAd w0 B (.mk k p l a b As cs subs Ab cb body At ct tail Al cl lead trail pos))(hR:k=2→RxOk rx l)(hE:∀ x∈subs,yO4 rx w0 B x)(hD:∀ d∈body,yX2 rx w0 B d):yX2 rx w0 B (.mk k p l a b As cs subs Ab cb body At ct tail Al cl lead trail pos):=by
 intro g wb acc dp sc lv w hg hb hC hG h0 hlv;obtain⟨Z,hZ⟩:∃ Z,Z=(wb|| !(acc&&okD rx sc (plD (.mk k p l a b As cs subs Ab cb body At ct tail Al cl lead trail pos)))):=⟨_,rfl⟩;obtain⟨Y,hY⟩:∃ Y,Y=(dp||fD (plD (.mk k p l a b As cs subs Ab cb body At ct tail Al cl lead trail pos)) lv):=⟨_,rfl⟩;rw[←hZ,←hY];unfold encD;unfold OkAd at hO;obtain⟨⟨hl,ha,hb',htr⟩,hSs,hOs,hSd,hOd,hSt,hSl⟩:=hO;rw[plD,dpD] at hlv;have hls:=hSs.2;have hlb:=hSd.2;have htl:=hSt.2;have hll:=hSl.2;have HZ:=qK hZ;have HY:=qK hY;have HSs:=qK hSs;have HE:=qK hE;have HD:=qK hD;have HR:=qK hR;have HSd:=qK hSd;have HBb:=qK hb;have HDp1:=qK (show lv+1+(dpEs (plEs subs):Int)≤1099511627776 from by omega);have HDp2:=qK (show lv+1+(dpDs (plDs body):Int)≤1099511627776 from by omega);have hlv2:lv≤1099511627776:=by omega
 have HL':=qK hl;have HA':=qK ha;have HB':=qK hb';have HGb:=qK hC.lt;have hSw:=hSt.1.below hb;have hLw:=hSl.1.below hb;have HNt:=qK (yT2 hSw hg);have HNl:=qK (yT2 hLw hg);have S0:DeclSt w g (wb|| !acc) (dp) #[.int .i64 k,.int .i64 p,.string ⟨l.toArray⟩,.string ⟨a.toArray⟩,.string ⟨b.toArray⟩,.slice As subs.length cs,.slice Ab body.length cb,.slice At tail.length ct,.slice Al lead.length cl,.string ⟨trail.toArray⟩,.int .i64 pos] Al lead At tail (w.alloc (.cells #[.int .i64 k,.int .i64 p,.string ⟨l.toArray⟩,.string ⟨a.toArray⟩,.string ⟨b.toArray⟩,.slice As subs.length cs,.slice Ab body.length cb,.slice At tail.length ct,.slice Al lead.length cl,.string ⟨trail.toArray⟩,.int .i64 pos] 71)):=by
  have hb2:Below w.heap.size w (w.alloc (.cells #[.int .i64 k,.int .i64 p,.string ⟨l.toArray⟩,.string ⟨a.toArray⟩,.string ⟨b.toArray⟩,.slice As subs.length cs,.slice Ab body.length cb,.slice At tail.length ct,.slice Al lead.length cl,.string ⟨trail.toArray⟩,.int .i64 pos] 71)):=qH.alloc qJ _;exact⟨Kp.ofBelow hb2 _,hC.keep hb2,Blk.new w _ _,(hLw.more (by have:=hC.lt;omega)).below hb2,(hSw.more (by have:=hC.lt;omega)).below hb2,hG.keep hb2⟩
 clear hZ hY hSs hOs hSd hOd hSt hSl hE hD hR hb hC hG hlv hl ha hb' htr hSw hLw;obtain⟨D1,hD1⟩:∃ D1,D1=(dp||decide ((16:Int) < lv)):=⟨_,rfl⟩;have HD1:=qK hD1;clear hD1;go_enter Tryz.func140,Tryz.ntmps140
 go_upto_region 1 with fail
 generalize w.alloc (.cells #[.int .i64 k,.int .i64 p,.string ⟨l.toArray⟩,.string ⟨a.toArray⟩,.string ⟨b.toArray⟩,.slice As subs.length cs,.slice Ab body.length cb,.slice At tail.length ct,.slice Al lead.length cl,.string ⟨trail.toArray⟩,.int .i64 pos] 71)=w1 at S0 ⊢;obtain⟨e0,e1,e2,e3,e4,e5,e6,e7,e8,e9,e10⟩:=zS1 S0.hd;have k1:w1.frozen? ⟨g,1,none⟩=false:=S0.hc.free 1;have k2:=S0.hc.c1;go_upto_if 16 with fail
 generalize hb16:decide ((16:Int) < lv)=b16;have H16:=qK hb16;clear hb16;go_cut [] from 17 to 19 (fun wx=>DeclSt w g (wb|| !acc) (D1) #[.int .i64 k,.int .i64 p,.string ⟨l.toArray⟩,.string ⟨a.toArray⟩,.string ⟨b.toArray⟩,.slice As subs.length cs,.slice Ab body.length cb,.slice At tail.length ct,.slice Al lead.length cl,.string ⟨trail.toArray⟩,.int .i64 pos] Al lead At tail wx)
 case first=>
  cases b16
  ·go_wp2_with fail
   go_meet
   case rel=>exact S0.castD (by rw[HD1.out,H16.out];simp)
  ·go_wp2_with fail
   go_meet
   case rel=>exact(S0.step HNl.out HNt.out (S0.hc.set1 true).1 (S0.hc.set1 true).2).castD (by rw[HD1.out,H16.out];simp)
 clear e0 e1 e2 e3 e4 e5 e6 e7 e8 e9 e10;have S1:=hcut;clear hcut S0 k1 k2;obtain⟨e0,e1,e2,e3,e4,e5,e6,e7,e8,e9,e10⟩:=zS1 S1.hd;go_upto_region 3 with fail
 obtain⟨bl,hbl⟩:∃ bl,bl=blD k:=⟨_,rfl⟩;have HBl:=qK hbl;clear hbl;go_cut [8] from 20 to 27 (fun v8 wx=>v8=.bool bl∧DeclSt w g (wb|| !acc) (D1) #[.int .i64 k,.int .i64 p,.string ⟨l.toArray⟩,.string ⟨a.toArray⟩,.string ⟨b.toArray⟩,.slice As subs.length cs,.slice Ab body.length cb,.slice At tail.length ct,.slice Al lead.length cl,.string ⟨trail.toArray⟩,.int .i64 pos] Al lead At tail wx)
 case first=>
  cases h5:((k:Int) == 5) <;> cases h6:((k:Int) == 6);all_goals
   go_wp2_with fail
   go_meet
   case rel=>exact⟨by rw[HBl.out];unfold blD;rw[h5,h6];rfl,S1⟩
 obtain⟨rfl,S1b⟩:=hcut;clear e0 e1 e2 e3 e4 e5 e6 e7 e8 e9 e10;clear S1;obtain⟨e0,e1,e2,e3,e4,e5,e6,e7,e8,e9,e10⟩:=zS1 S1b.hd;go_upto_region 4 with fail
 go_cut [] from 28 to 38 (fun wx=>DeclSt w g (wb|| !(acc&&kD k)) (D1) #[.int .i64 k,.int .i64 p,.string ⟨l.toArray⟩,.string ⟨a.toArray⟩,.string ⟨b.toArray⟩,.slice As subs.length cs,.slice Ab body.length cb,.slice At tail.length ct,.slice Al lead.length cl,.string ⟨trail.toArray⟩,.int .i64 pos] Al lead At tail wx)
 case first=>
  go_wp2_with (refine(zR4 _ S1b.hc).mono ?_;rintro e w5 ⟨rfl,hk,hc⟩;have S2:=(S1b.below (qH.alloc qJ _)).step HNl.out HNt.out hk hc;clear hk hc)
  all_goals
   go_meet
   case rel=>exact S2.cast (by unfold kD;simp[*])
 clear e0 e1 e2 e3 e4 e5 e6 e7 e8 e9 e10;obtain⟨w2,hw2⟩:∃ w2,w2=wc:=⟨_,rfl⟩;subst hw2;have S2:=hcut;clear hcut S1b;obtain⟨e0,e1,e2,e3,e4,e5,e6,e7,e8,e9,e10⟩:=zS1 S2.hd;go_upto_region 5 with fail
 go_cut [] from 39 to 62 (fun wx=>DeclSt w g (wb|| !(acc&&kD k&&lnD k body.length lead tail trail)) (D1) #[.int .i64 k,.int .i64 p,.string ⟨l.toArray⟩,.string ⟨a.toArray⟩,.string ⟨b.toArray⟩,.slice As subs.length cs,.slice Ab body.length cb,.slice At tail.length ct,.slice Al lead.length cl,.string ⟨trail.toArray⟩,.int .i64 pos] Al lead At tail wx)
 case first=>
  have hz0:w.heap.size < w2.heap.size:=S2.hd.lt;have hw0:IntKind.i64.wrap ((body.length:Int)+(tail.length:Int))=(body.length:Int)+(tail.length:Int):=by rw[IntKind.wrap_i64];omega
  cases bl
  ·cases h0':(((body.length:Int)+(tail.length:Int)) == 0)
   ·have HX:=qK (show (!zY2 lead&&(!zY2 tail&&(!zY2 [trail]&&false)))=lnD k body.length lead tail trail from by unfold lnD;rw[←HBl.out,h0'];rfl);apply zZ5 qF [isv _,isv _,isv _,isv _,isv _,isv _,isv _,isv _,isv _,(fun v W=>∃ q:Nat,v=.slice (some ⟨q,0,none⟩) 1 1∧Blk W q 9 #[.string ⟨trail.toArray⟩]),isv _,isv _,isv _,isv _,isv _,isv _,isv _,isv _,isv _,isv _,isv _,isv _,(fun v W=>∃ q:Nat,v=.slice (some ⟨q,0,none⟩) 4 4∧Blk W q 4 #[.bool (!zY2 lead),.bool (!zY2 tail),.bool (!zY2 [trail]),.bool false])] w2.heap.size w2 qJ qH.drew qF qF qF qF qF (qC (qC (qC (qC (qC (qC (qC (qC (qC (qA (fun _ _ _ ⟨q,e,h1⟩ hb=>⟨q,e,h1.keep hb⟩) (qC (qC (qC (qC (qC (qC (qC (qC (qC (qC (qC (qC (qA (fun _ _ _ ⟨q,e,h1⟩ hb=>⟨q,e,h1.keep hb⟩) trivial))))))))))))))))))))))) ?steps (by rfl) _ rfl rfl ?fin;case steps=>exact qA (qS 0) (qA (qS 5) (qA (jZ 1 40) (qA (jJ 2 41) (qA (qS 5) (qA (kW 4 43) (qA (jK 5 44) (qA (qS 5) (qA (yA 7 46) (qA (yG 8 47) (qA (jL 9 48) (qA (qS 8) (qA (qQ 11 50) (qA (qR 5 12 51) (qA (kG 12 51 13 52) (qA (qP 12 51 14 53) (qA (qR 5 12 51) (qA (kH 12 51 16 55) (qA (qP 12 51 17 56) (qA (qW 12 51 15 54 18 57) (qA (qP 12 51 19 58) (qA (qV 12 51 20 59) (qA (jC 3 42 6 45 10 49 21 60) trivial))))))))))))))))))))))
    case fin=>exact vG
   ·have HX:=qK (show (!zY2 lead&&(!zY2 tail&&(!zY2 [trail]&&true)))=lnD k body.length lead tail trail from by unfold lnD;rw[←HBl.out,h0'];rfl);apply zZ5 qF [isv _,isv _,isv _,isv _,isv _,isv _,isv _,isv _,isv _,(fun v W=>∃ q:Nat,v=.slice (some ⟨q,0,none⟩) 1 1∧Blk W q 9 #[.string ⟨trail.toArray⟩]),isv _,isv _,isv _,isv _,isv _,isv _,isv _,isv _,isv _,isv _,isv _,isv _,(fun v W=>∃ q:Nat,v=.slice (some ⟨q,0,none⟩) 4 4∧Blk W q 4 #[.bool (!zY2 lead),.bool (!zY2 tail),.bool (!zY2 [trail]),.bool true])] w2.heap.size w2 qJ qH.drew qF qF qF qF qF (qC (qC (qC (qC (qC (qC (qC (qC (qC (qA (fun _ _ _ ⟨q,e,h1⟩ hb=>⟨q,e,h1.keep hb⟩) (qC (qC (qC (qC (qC (qC (qC (qC (qC (qC (qC (qC (qA (fun _ _ _ ⟨q,e,h1⟩ hb=>⟨q,e,h1.keep hb⟩) trivial))))))))))))))))))))))) ?steps (by rfl) _ rfl rfl ?fin;case steps=>exact qA (qS 0) (qA (qS 5) (qA (jZ 1 40) (qA (jJ 2 41) (qA (qS 5) (qA (kW 4 43) (qA (jK 5 44) (qA (qS 5) (qA (yA 7 46) (qA (yG 8 47) (qA (jL 9 48) (qA (qS 8) (qA (qQ 11 50) (qA (qR 5 12 51) (qA (kG 12 51 13 52) (qA (qP 12 51 14 53) (qA (qR 5 12 51) (qA (kH 12 51 16 55) (qA (qP 12 51 17 56) (qA (qW 12 51 15 54 18 57) (qA (qP 12 51 19 58) (qA (qV 12 51 20 59) (qA (jC 3 42 6 45 10 49 21 60) trivial))))))))))))))))))))))
    case fin=>exact vG
  ·have HX:=qK (show (!zY2 lead&&(!zY2 tail&&(!zY2 [trail]&&true)))=lnD k body.length lead tail trail from by unfold lnD;rw[←HBl.out];rfl);apply zZ5 qF [isv _,isv _,isv _,isv _,isv _,isv _,isv _,isv _,isv _,(fun v W=>∃ q:Nat,v=.slice (some ⟨q,0,none⟩) 1 1∧Blk W q 9 #[.string ⟨trail.toArray⟩]),isv _,isv _,isv _,isv _,isv _,isv _,isv _,isv _,isv _,isv _,isv _,isv _,(fun v W=>∃ q:Nat,v=.slice (some ⟨q,0,none⟩) 4 4∧Blk W q 4 #[.bool (!zY2 lead),.bool (!zY2 tail),.bool (!zY2 [trail]),.bool true])] w2.heap.size w2 qJ qH.drew qF qF qF qF qF (qC (qC (qC (qC (qC (qC (qC (qC (qC (qA (fun _ _ _ ⟨q,e,h1⟩ hb=>⟨q,e,h1.keep hb⟩) (qC (qC (qC (qC (qC (qC (qC (qC (qC (qC (qC (qC (qA (fun _ _ _ ⟨q,e,h1⟩ hb=>⟨q,e,h1.keep hb⟩) trivial))))))))))))))))))))))) ?steps (by rfl) _ rfl rfl ?fin;case steps=>exact qA (qS 0) (qA (qS 5) (qA (jZ 1 40) (qA (jJ 2 41) (qA (qS 5) (qA (kW 4 43) (qA (jK 5 44) (qA (qS 5) (qA (yA 7 46) (qA (yG 8 47) (qA (jL 9 48) (qA (qS 8) (qA (qQ 11 50) (qA (qR 5 12 51) (qA (kG 12 51 13 52) (qA (qP 12 51 14 53) (qA (qR 5 12 51) (qA (kH 12 51 16 55) (qA (qP 12 51 17 56) (qA (qW 12 51 15 54 18 57) (qA (qP 12 51 19 58) (qA (qV 12 51 20 59) (qA (jC 3 42 6 45 10 49 21 60) trivial))))))))))))))))))))))
   case fin=>exact vG
 clear e0 e1 e2 e3 e4 e5 e6 e7 e8 e9 e10;have S3:=hcut;clear hcut S2;obtain⟨e0,e1,e2,e3,e4,e5,e6,e7,e8,e9,e10⟩:=zS1 S3.hd
 go_upto_block 0 with fail
 go_cut [] from 65 to 83 (fun wx=>DeclSt w g (wb|| !(acc&&kD k&&lnD k body.length lead tail trail&&prD k p)) (D1) #[.int .i64 k,.int .i64 p,.string ⟨l.toArray⟩,.string ⟨a.toArray⟩,.string ⟨b.toArray⟩,.slice As subs.length cs,.slice Ab body.length cb,.slice At tail.length ct,.slice Al lead.length cl,.string ⟨trail.toArray⟩,.int .i64 pos] Al lead At tail wx)
 case first=>
  cases h1:((k:Int) == 1)
  ·go_wp2_with (refine(zR4 _ S3.hc).mono ?_;rintro e w5 ⟨rfl,hk,hc⟩;have S4:=(S3.below (qH.alloc qJ _)).step HNl.out HNt.out hk hc;clear hk hc)
   all_goals
    go_meet
    case rel=>exact S4.cast (by rw[show prD k p=(p == 0) from if_neg (beq_eq_false_iff_ne.1 h1)])
  ·go_wp2_with (refine(zR4 _ S3.hc).mono ?_;rintro e w5 ⟨rfl,hk,hc⟩;have S4:=(S3.below (qH.alloc qJ _)).step HNl.out HNt.out hk hc;clear hk hc)
   all_goals
    go_meet
    case rel=>exact S4.cast (by rw[show prD k p=(decide (1≤p)&&decide (p≤3)) from if_pos (beq_iff_eq.1 h1)];simp[*])
 clear e0 e1 e2 e3 e4 e5 e6 e7 e8 e9 e10;have S4:=hcut;clear hcut S3;obtain⟨e0,e1,e2,e3,e4,e5,e6,e7,e8,e9,e10⟩:=zS1 S4.hd
 go_upto_block 1 with fail
 go_cut [] from 86 to 122 (fun wx=>DeclSt w g (wb|| !(acc&&kD k&&lnD k body.length lead tail trail&&prD k p&&lbD rx k l sc)) (D1) #[.int .i64 k,.int .i64 p,.string ⟨l.toArray⟩,.string ⟨a.toArray⟩,.string ⟨b.toArray⟩,.slice As subs.length cs,.slice Ab body.length cb,.slice At tail.length ct,.slice Al lead.length cl,.string ⟨trail.toArray⟩,.int .i64 pos] Al lead At tail wx)
 case first=>
  cases h1:((k:Int) == 1)
  ·cases h2:((k:Int) == 2)
   ·cases h4:((k:Int) == 4)
    ·have HX:=qK (show (l.isEmpty&&(sc||(k != 8)))=lbD rx k l sc from by
      unfold lbD;rw[if_neg (beq_eq_false_iff_ne.1 h1),if_neg (beq_eq_false_iff_ne.1 h2),if_neg (beq_eq_false_iff_ne.1 h4)])
     cases sc;all_goals
      go_wp2_with (refine(must2 _ _ S4.hc).mono ?_;rintro e w5 ⟨rfl,hk,hc⟩;have S5:=(S4.below (qH.alloc qJ _)).step HNl.out HNt.out hk hc;clear hk hc)
      go_meet
      case rel=>exact S5.cast (by rw[←HX.out];simp)
    ·have HX:=qK (show (sc&&zY7 l)=lbD rx k l sc from by
      unfold lbD;rw[if_neg (beq_eq_false_iff_ne.1 h1),if_neg (beq_eq_false_iff_ne.1 h2),if_pos (beq_iff_eq.1 h4)])
     go_wp2_with (first
      | (refine(zW1 l _ HL'.out).mono ?_;rintro e w6 ⟨rfl,hb⟩;have S4b:=S4.below hb;clear hb)
      | (refine(must2 _ _ S4b.hc).mono ?_;rintro e w5 ⟨rfl,hk,hc⟩;have S5:=(S4b.below (qH.alloc qJ _)).step HNl.out HNt.out hk hc;clear hk hc))
     all_goals
      go_meet
      case rel=>exact S5.cast (by rw[←HX.out])
   ·have HX:=qK (show rx l=lbD rx k l sc from by
     unfold lbD;rw[if_neg (beq_eq_false_iff_ne.1 h1),if_pos (beq_iff_eq.1 h2)])
    have cR:=HR.out (beq_iff_eq.1 h2) _ S4.hg;have CR:=qK cR;clear cR;go_wp2_with fail
    refine CR.out.mono ?_;rintro e w6 ⟨v0,v1,v2,v3,v4,A5,n5,c5,er,epos,rfl,hq,hb⟩;have S4b:=S4.below hb;have HQ:=qK hq;clear hb hq;go_upto_region 15 with fail
    have hb7:Below w6.heap.size w6 ((w6.alloc (.cells #[.int .i64 v0,.int .u64 v1,.int .u64 v2,.int .u64 v3,.int .u64 v4,.slice A5 n5 c5] 233)).alloc (.cells #[.int .i64 er,.int .i64 epos] 235)):=(qH.alloc qJ _).alloc (by simp) _;have S4c:=S4b.below hb7;have hq7:=Blk.new (w6.alloc (.cells #[.int .i64 v0,.int .u64 v1,.int .u64 v2,.int .u64 v3,.int .u64 v4,.slice A5 n5 c5] 233)) 235 #[.int .i64 er,.int .i64 epos];rw[World.size_alloc] at hq7;have hc7:(((w6.alloc (.cells #[.int .i64 v0,.int .u64 v1,.int .u64 v2,.int .u64 v3,.int .u64 v4,.slice A5 n5 c5] 233)).alloc (.cells #[.int .i64 er,.int .i64 epos] 235))).cell? ⟨w6.heap.size+1,0,none⟩=some (.int .i64 er):=hq7.cell 0;clear hb7 hq7;generalize (w6.alloc (.cells #[.int .i64 v0,.int .u64 v1,.int .u64 v2,.int .u64 v3,.int .u64 v4,.slice A5 n5 c5] 233)).alloc (.cells #[.int .i64 er,.int .i64 epos] 235)=w7 at S4c hc7 ⊢;go_wp2_with (refine(zR4 _ S4c.hc).mono ?_;rintro e w5 ⟨rfl,hk,hc⟩;have S5:=(S4c.below (qH.alloc qJ _)).step HNl.out HNt.out hk hc;clear hk hc)
    go_meet
    case rel=>exact S5.cast (by rw[←HX.out,←HQ.out])
  ·go_wp2_with fail
   go_meet
   case rel=>exact S4.cast (by rw[show lbD rx k l sc=true from if_pos (beq_iff_eq.1 h1)];simp)
 clear e0 e1 e2 e3 e4 e5 e6 e7 e8 e9 e10;have S5:=hcut;clear hcut S4;obtain⟨e0,e1,e2,e3,e4,e5,e6,e7,e8,e9,e10⟩:=zS1 S5.hd;go_upto_if 125 with fail
 generalize hb6:((k:Int) == 6)=b6;have H6:=qK hb6;clear hb6;go_cut [] from 126 to 137 (fun wx=>DeclSt w g (wb|| !(acc&&kD k&&lnD k body.length lead tail trail&&prD k p&&lbD rx k l sc&&nmD k a b)) (D1) #[.int .i64 k,.int .i64 p,.string ⟨l.toArray⟩,.string ⟨a.toArray⟩,.string ⟨b.toArray⟩,.slice As subs.length cs,.slice Ab body.length cb,.slice At tail.length ct,.slice Al lead.length cl,.string ⟨trail.toArray⟩,.int .i64 pos] Al lead At tail wx)
 case first=>
  cases b6
  ·go_wp2_with (first
    | (refine(yU3 a b _).mono ?_;rintro e w6 ⟨rfl,hb⟩;have S5b:=S5.below hb;clear hb)
    | (refine(zR4 _ S5b.hc).mono ?_;rintro e w5 ⟨rfl,hk,hc⟩;have S6:=(S5b.below (qH.alloc qJ _)).step HNl.out HNt.out hk hc;clear hk hc))
   all_goals
    go_meet
    case rel=>exact S6.cast (by rw[show nmD k a b=_ from if_neg (beq_eq_false_iff_ne.1 H6.out)];simp)
  ·go_wp2_with (first
    | (refine(yX0 a b _ HA'.out HB'.out).mono ?_;rintro e w6 ⟨rfl,hb⟩;have S5b:=S5.below hb;clear hb)
    | (refine(zR4 _ S5b.hc).mono ?_;rintro e w5 ⟨rfl,hk,hc⟩;have S6:=(S5b.below (qH.alloc qJ _)).step HNl.out HNt.out hk hc;clear hk hc))
   all_goals
    go_meet
    case rel=>exact S6.cast (by rw[show nmD k a b=_ from if_pos (beq_iff_eq.1 H6.out)])
 clear e0 e1 e2 e3 e4 e5 e6 e7 e8 e9 e10;obtain⟨w6,hw6⟩:∃ w6,w6=wc:=⟨_,rfl⟩;subst hw6;have S6:=hcut;clear hcut S5;obtain⟨e0,e1,e2,e3,e4,e5,e6,e7,e8,e9,e10⟩:=zS1 S6.hd
 go_upto_block 2 with fail
 obtain⟨wt,hwt⟩:∃ wt,wt=yK6 k:=⟨_,rfl⟩;have HWt:=qK hwt;clear hwt;go_cut [11] from 140 to 143 (fun v11 wx=>v11=.int .i64 wt∧wx=w6)
 case first=>
  cases h7:((k:Int) == 7)
  ·cases h8:((k:Int) == 8)
   ·go_wp2_with fail
    go_meet
    case rel=>exact⟨by rw[HWt.out,show yK6 k=1 from(if_neg (beq_eq_false_iff_ne.1 h7)).trans (if_neg (beq_eq_false_iff_ne.1 h8))],rfl⟩
   ·go_wp2_with fail
    go_meet
    case rel=>exact⟨by rw[HWt.out,show yK6 k=0 from(if_neg (beq_eq_false_iff_ne.1 h7)).trans (if_pos (beq_iff_eq.1 h8))],rfl⟩
  ·go_wp2_with fail
   go_meet
   case rel=>exact⟨by rw[HWt.out,show yK6 k=2 from if_pos (beq_iff_eq.1 h7)],rfl⟩
 obtain⟨rfl,rfl⟩:=hcut;go_wp2_with fail
 refine(zR4 _ S6.hc).mono ?_;rintro e w7 ⟨rfl,hk,hc⟩;have S7:=((S6.below (qH.alloc qJ _)).step HNl.out HNt.out hk hc).cast (Y:=wb|| !(acc&&kD k&&lnD k body.length lead tail trail&&prD k p&&lbD rx k l sc&&nmD k a b&&wnD k subs.length)) (by unfold wnD;rw[←HWt.out]);clear e0 e1 e2 e3 e4 e5 e6 e7 e8 e9 e10;clear hk hc S6;obtain⟨e0,e1,e2,e3,e4,e5,e6,e7,e8,e9,e10⟩:=zS1 S7.hd;go_upto_region 28 with fail
 obtain⟨ow,how⟩:∃ ow,ow=owD k:=⟨_,rfl⟩;have HOw:=qK how;clear how;go_cut [12] from 152 to 169 (fun v12 wx=>v12=.bool ow∧wx=w7)
 case first=>
  cases h1:((k:Int) == 1) <;> cases h2:((k:Int) == 2) <;> cases h3:((k:Int) == 3) <;> cases h4:((k:Int) == 4);all_goals
   go_wp2_with fail
   go_meet
   case rel=>exact⟨by rw[HOw.out];unfold owD;rw[h1,h2,h3,h4];rfl,rfl⟩
 obtain⟨rfl,rfl⟩:=hcut;obtain⟨EL,hEL⟩:∃ EL:EA × Nat→Bool,EL=fun p:EA × Nat=>okE rx (plE p.1) (sc&&ow&&decide (p.2=0)) false false:=⟨_,rfl⟩;have HEL:=qK (fun p=>congrFun hEL p);have HZ2:=qK (show Z=(wb|| !(acc&&(yY0 rx k p l a b subs.length body.length tail lead trail sc&&subs.zipIdx.all EL&&okDs rx false (plDs body)))) from by rw[HZ.out,okD_mk,hEL,HOw.out]);have HY2:=qK (show Y=(D1||(subs.any fun x=>fE (plE x) (lv+1))||(plDs body).any fun d=>fD d (lv+1)) from by rw[HY.out,fD_pl,HD1.out];simp only[Bool.or_assoc]);have S7':=S7.cast (Y:=wb|| !(acc&&yY0 rx k p l a b subs.length body.length tail lead trail sc)) (by unfold yY0;simp only[Bool.and_assoc]);clear hEL HZ HY HD1 HOw S7;generalize yY0 rx k p l a b subs.length body.length tail lead trail sc=OW at HZ2 S7';go_wp2;go_loopw [173] (fun i wr'=>∃ j:Nat,j≤subs.length∧i=.int .i64 (j:Nat)∧DeclSt w g (wb|| !(acc&&OW&&(subs.zipIdx.take j).all EL)) (D1||(subs.take j).any fun x=>fE (plE x) (lv+1)) #[.int .i64 k,.int .i64 p,.string ⟨l.toArray⟩,.string ⟨a.toArray⟩,.string ⟨b.toArray⟩,.slice As subs.length cs,.slice Ab body.length cb,.slice At tail.length ct,.slice Al lead.length cl,.string ⟨trail.toArray⟩,.int .i64 pos] Al lead At tail wr') (fun i _=>subs.length-(intOf i).toNat)
 case atStart=>exact⟨0,Nat.zero_le _,rfl,(S7'.cast (by simp)).castD (by simp)⟩
 case round=>
  obtain⟨j,hj,rfl,Sj⟩:=hrel;clear e0 e1 e2 e3 e4 e5 e6 e7 e8 e9 e10;obtain⟨e0,e1,e2,e3,e4,e5,e6,e7,e8,e9,e10⟩:=zS1 Sj.hd;by_cases hlt:j < subs.length
  ·have hlt':(j:Int) < (subs.length:Int):=by omega
   have HT:=qK (show (subs.zipIdx.take (j+1)).all EL=((subs.zipIdx.take j).all EL&&EL (subs[j],j)) from by rw[yH4 _ _ hlt,List.all_append];simp);have HU:=qK (zO0 (fun x=>fE (plE x) (lv+1)) subs j hlt);have HM:=qK (List.getElem_mem hlt);have HBk:=qK (HBb.out.trans (Sj.hk.toBelow (B:=B) (by have:=HGb.out;omega) (fun i hi=>by omega)));obtain⟨bb,off,hA,hbB,hc⟩:=(HSs.out.below HBk.out).1.at_ hlt;have hbW:bb < wr.heap.size:=by have:=Sj.hc.lt;omega
   generalize subs[j]=x at hc HT HU HM;obtain⟨xk,xt,xn,xa,xb,xAs,xcs,xsubs,xAd,xcd,xdecls,xAt,xct,xtail,xpos⟩:=x;have c0:=hc 0 _ rfl;have c1:=hc 1 _ rfl;have c2:=hc 2 _ rfl;have c3:=hc 3 _ rfl;have c4:=hc 4 _ rfl;have c5:=hc 5 _ rfl;have c6:=hc 6 _ rfl;have c7:=hc 7 _ rfl;have c8:=hc 8 _ rfl;simp only[Nat.add_zero] at c0;have HAd:=qK hA;clear hc;subst hA;have HB1:=qK (show Below wr.heap.size wr (wr.alloc (.cells #[.int .i64 xk,.string ⟨xt.toArray⟩,.int .i64 xn,.string ⟨xa.toArray⟩,.string ⟨xb.toArray⟩,.slice xAs xsubs.length xcs,.slice xAd xdecls.length xcd,.slice xAt xtail.length xct,.int .i64 xpos] 67)) from qH.alloc qJ _);have cX:=fun cj' io' il'=>HE.out _ HM.out g wb _ _ cj' io' il' (lv+1) _ hg (HBk.out.trans (HB1.out.mono (by have:=Sj.hc.lt;omega))) (Sj.hc.keep HB1.out) (Sj.hg.keep HB1.out) qG (by
    have:=dpE_le (show plE (.mk xk xt xn xa xb xAs xcs xsubs xAd xcd xdecls xAt xct xtail xpos)∈plEs subs from by rw[zX9];exact List.mem_map.2 ⟨_,HM.out,rfl⟩);have:=HDp1.out;omega)
   unfold encE at cX;have CX:=qK cX;clear cX;have hl1:IntKind.i64.wrap (lv+1)=lv+1:=by rw[IntKind.wrap_i64];omega
   cases hj0:((j:Int) == 0);all_goals cases sc
   all_goals cases ow
   all_goals
    go_wp2_with fail
    refine(CX.out _ _ _).mono ?_;rintro e w2 ⟨rfl,hk2,hc2⟩;have S2:=(Sj.below HB1.out).step HNl.out HNt.out hk2 hc2;have HS3:=qK ((S2.cast (Y:=wb|| !(acc&&OW&&(subs.zipIdx.take (j+1)).all EL)) (by rw[HT.out,←Bool.and_assoc,HEL.out];have hjd:decide (j=0)=((j:Int) == 0):=(by rw[show ((j:Int) == 0)=decide ((j:Int)=0) from rfl,decide_eq_decide];omega);simp only[hjd,hj0];simp)).castD (Y:=D1||(subs.take (j+1)).any fun x=>fE (plE x) (lv+1)) (by rw[HU.out,←Bool.or_assoc]));clear hk2 hc2 S2;go_wp2;go_roundw
    case rel=>exact⟨j+1,by omega,by go_num,HS3.out⟩
    case measure=>simp[intOf];omega
  ·obtain rfl:j=subs.length:=by omega
   have HBk:=qK (HBb.out.trans (Sj.hk.toBelow (B:=B) (by have:=HGb.out;omega) (fun i hi=>by omega)));have hl1:IntKind.i64.wrap (lv+1)=lv+1:=by rw[IntKind.wrap_i64];omega
   have cD:=zC6 rx Ab cb body w0 B HSd.out HD.out g wb _ _ false (lv+1) _ hg HBk.out Sj.hc Sj.hg qG HDp2.out;have CD:=qK cD;clear cD;go_wp2_with fail
   refine CD.out.mono ?_;rintro e w3 ⟨rfl,hk3,hc3⟩;have HK3:=qK (Sj.hk.trans hk3);have HC3:=qK hc3;clear hk3 hc3;go_wp2
   go_end0
   refine⟨rfl,HK3.out,?_⟩;have h:=HC3.out;rw[List.take_of_length_le (by simp),List.take_length] at h;rw[HZ2.out,HY2.out];simp only[Bool.and_assoc,Bool.or_assoc] at h ⊢;exact h
end Go.Proofs.YtdgehhgjgifikaaGreatDoor
