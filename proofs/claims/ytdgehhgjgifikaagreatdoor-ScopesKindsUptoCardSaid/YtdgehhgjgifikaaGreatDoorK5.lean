/- What the claim needs of:YE. -/
import Derived.Test.YtdgehhgjgifikaaGreatDoorK4
namespace Go.Proofs.YtdgehhgjgifikaaGreatDoor
open Go.RowKit
theorem zZ6 {w:World}{g:Nat}{ty:TypeId}{v0 v1 v2 v3 v4 v5 v6 v7 v8:Value}(h:Blk w g ty #[v0,v1,v2,v3,v4,v5,v6,v7,v8]) :
  w.cell? ⟨g,0,none⟩=some v0∧w.cell? ⟨g,1,none⟩=some v1∧w.cell? ⟨g,2,none⟩=some v2∧w.cell? ⟨g,3,none⟩=some v3∧w.cell? ⟨g,4,none⟩=some v4∧w.cell? ⟨g,5,none⟩=some v5∧w.cell? ⟨g,6,none⟩=some v6∧w.cell? ⟨g,7,none⟩=some v7∧w.cell? ⟨g,8,none⟩=some v8:=
 ⟨h.cell 0,h.cell 1,h.cell 2,h.cell 3,h.cell 4,h.cell 5,h.cell 6,h.cell 7,h.cell 8⟩
theorem ck_q {w:World}{g:Nat}{wr acc dp q q':Bool}(h:CkAt w g (wr|| !(acc&&q)) dp)(e:q=q'):CkAt w g (wr|| !(acc&&q')) dp:=e▸h
theorem ck_q0 {w:World}{g:Nat}{wr acc dp q':Bool}(h:CkAt w g (wr|| !acc) dp)(e:true=q'):CkAt w g (wr|| !(acc&&q')) dp:=by subst e;simpa using h
theorem ck_z {w:World}{g:Nat}{dp x Z:Bool}(h:CkAt w g x dp)(e:x=Z):CkAt w g Z dp:=e▸h
def yU9 (k n:Int)(m:Nat):Bool:=
 if k=10∨k=21 then true
 else if k=5 then decide ((1:Int)≤m)
 else if k=9∨k=11∨k=18∨k=19 then decide ((m:Int)=1)
 else if k=12∨k=16∨k=20 then decide ((m:Int)=2)
 else if k=15 then(decide ((m:Int)=2)||decide ((m:Int)=3))
 else if k=17 then decide ((2:Int)≤m)
 else if k=14 then decide (bits BinOp.and IntKind.i64 n 1≤(m:Int))
 else decide ((m:Int)=0)
set_option maxRecDepth 100000 in
set_option maxHeartbeats 4000000 in
theorem subs_any (g:Nat)(wr acc dp:Bool)(k:Int)(t:Tx)(n:Int)(a b:Tx)(As:Option Addr)(m cs:Nat)(Ad:Option Addr)(m2 cd:Nat)(At:Option Addr)(m3 ct:Nat)(pos:Int)(w:World)(hC:CkAt w g (wr|| !acc) dp)(hG:Glob w) :
  Calls Tryz.prog 202 #[.pointer (some ⟨g,0,none⟩),.agg #[.int .i64 k,.string ⟨t.toArray⟩,.int .i64 n,.string ⟨a.toArray⟩,.string ⟨b.toArray⟩,.slice As m cs,.slice Ad m2 cd,.slice At m3 ct,.int .i64 pos]] w (zM9 g (wr|| !(acc&&yU9 k n m)) dp w):=by
 go_enter Tryz.func202,Tryz.ntmps202
 go_upto_region 1 with fail
 have q0:=Blk.new w 67 #[.int .i64 k,.string ⟨t.toArray⟩,.int .i64 n,.string ⟨a.toArray⟩,.string ⟨b.toArray⟩,.slice As m cs,.slice Ad m2 cd,.slice At m3 ct,.int .i64 pos];have HK0:=qK (show Kp (· = g) w (w.alloc (.cells #[.int .i64 k,.string ⟨t.toArray⟩,.int .i64 n,.string ⟨a.toArray⟩,.string ⟨b.toArray⟩,.slice As m cs,.slice Ad m2 cd,.slice At m3 ct,.int .i64 pos] 67)) from(Kp.refl _ _).alloc _);have HC0:=qK (hC.keep (qH.alloc qJ (.cells #[.int .i64 k,.string ⟨t.toArray⟩,.int .i64 n,.string ⟨a.toArray⟩,.string ⟨b.toArray⟩,.slice As m cs,.slice Ad m2 cd,.slice At m3 ct,.int .i64 pos] 67)));have HG0:=qK (hG.alloc (.cells #[.int .i64 k,.string ⟨t.toArray⟩,.int .i64 n,.string ⟨a.toArray⟩,.string ⟨b.toArray⟩,.slice As m cs,.slice Ad m2 cd,.slice At m3 ct,.int .i64 pos] 67));generalize w.alloc (.cells #[.int .i64 k,.string ⟨t.toArray⟩,.int .i64 n,.string ⟨a.toArray⟩,.string ⟨b.toArray⟩,.slice As m cs,.slice Ad m2 cd,.slice At m3 ct,.int .i64 pos] 67)=w1 at q0 HK0 HC0 HG0 ⊢;obtain⟨e0,e1,e2,e3,e4,e5,e6,e7,e8⟩:=zZ6 q0;clear q0 hC hG;go_wp2_with (refine(zR4 _ HC0.out).mono ?_;rintro e w2 ⟨rfl,hk,hc⟩;have HK2:=qK ((HK0.out.alloc _).trans hk);have HC2:=qK hc;clear hk hc)
 all_goals
  go_end0
  first
  | exact⟨rfl,HK2.out,ck_q HC2.out (by clear HK0 HC0 HG0 e0 e1 e2 e3 e4 e5 e6 e7 e8 HK2 HC2;unfold yU9;first | (simp_all;done) | (rw[Bool.eq_iff_iff];simp_all;try omega))⟩
  | exact⟨rfl,HK0.out,ck_q0 HC0.out (by clear HK0 HC0 HG0 e0 e1 e2 e3 e4 e5 e6 e7 e8;unfold yU9;first | (simp_all;done) | (rw[Bool.eq_iff_iff];simp_all;try omega))⟩
def yT0 (k:Int)(t:Tx):Bool:=
 if k=10∨k=4∨k=11 then true
 else if k=8 then decide (t∈xZ1)
 else if k=9 then decide (t∈yP4)
 else if k=19 then decide (t∈yP5)
 else if k=20 then decide (t∈zC2)
 else if k=21 then zY7 t
 else decide (t=[])
set_option maxRecDepth 100000 in
set_option maxHeartbeats 4000000 in
theorem text_any (g:Nat)(wr acc dp:Bool)(k:Int)(t:Tx)(n:Int)(a b:Tx)(As:Option Addr)(m cs:Nat)(Ad:Option Addr)(m2 cd:Nat)(At:Option Addr)(m3 ct:Nat)(pos:Int)(w:World)(hC:CkAt w g (wr|| !acc) dp)(hG:Glob w)(ht:t.length≤maxLen) :
  Calls Tryz.prog 203 #[.pointer (some ⟨g,0,none⟩),.agg #[.int .i64 k,.string ⟨t.toArray⟩,.int .i64 n,.string ⟨a.toArray⟩,.string ⟨b.toArray⟩,.slice As m cs,.slice Ad m2 cd,.slice At m3 ct,.int .i64 pos]] w (zM9 g (wr|| !(acc&&yT0 k t)) dp w):=by
 obtain⟨q,hq⟩:∃ q,q=yT0 k t:=⟨_,rfl⟩;rw[←hq];have HQ:=qK hq;have HL:=qK ht;clear hq ht;go_enter Tryz.func203,Tryz.ntmps203
 go_upto_region 1 with fail
 have q0:=Blk.new w 67 #[.int .i64 k,.string ⟨t.toArray⟩,.int .i64 n,.string ⟨a.toArray⟩,.string ⟨b.toArray⟩,.slice As m cs,.slice Ad m2 cd,.slice At m3 ct,.int .i64 pos];have HK0:=qK (show Kp (· = g) w (w.alloc (.cells #[.int .i64 k,.string ⟨t.toArray⟩,.int .i64 n,.string ⟨a.toArray⟩,.string ⟨b.toArray⟩,.slice As m cs,.slice Ad m2 cd,.slice At m3 ct,.int .i64 pos] 67)) from(Kp.refl _ _).alloc _);have HC0:=qK (hC.keep (qH.alloc qJ (.cells #[.int .i64 k,.string ⟨t.toArray⟩,.int .i64 n,.string ⟨a.toArray⟩,.string ⟨b.toArray⟩,.slice As m cs,.slice Ad m2 cd,.slice At m3 ct,.int .i64 pos] 67)));have HG0:=qK (hG.alloc (.cells #[.int .i64 k,.string ⟨t.toArray⟩,.int .i64 n,.string ⟨a.toArray⟩,.string ⟨b.toArray⟩,.slice As m cs,.slice Ad m2 cd,.slice At m3 ct,.int .i64 pos] 67));generalize w.alloc (.cells #[.int .i64 k,.string ⟨t.toArray⟩,.int .i64 n,.string ⟨a.toArray⟩,.string ⟨b.toArray⟩,.slice As m cs,.slice Ad m2 cd,.slice At m3 ct,.int .i64 pos] 67)=w1 at q0 HK0 HC0 HG0 ⊢;obtain⟨e0,e1,e2,e3,e4,e5,e6,e7,e8⟩:=zZ6 q0;clear q0 hC hG;have cT:=xZ7 t w1 HG0.out;have cB:=yD6 t w1 HG0.out;have cU:=yD7 t w1 HG0.out;have cI:=yK3 t w1 HG0.out;have cD:=zW1 t w1 HL.out;generalize hqT:decide (t∈xZ1)=qT at cT;generalize hqB:decide (t∈yP4)=qB at cB;generalize hqU:decide (t∈yP5)=qU at cU;generalize hqI:decide (t∈zC2)=qI at cI;generalize hqD:zY7 t=qD at cD;have HqT:=qK hqT;have HqB:=qK hqB;have HqU:=qK hqU;have HqI:=qK hqI;have HqD:=qK hqD;clear hqT hqB hqU hqI hqD;go_wp2_with (first
  | ((with_reducible refine cT.mono ?_);rintro e w2 ⟨rfl,hb⟩;have HK1:=qK (HK0.out.below hb);have HC1:=qK (HC0.out.keep hb);clear hb)
  | ((with_reducible refine cB.mono ?_);rintro e w2 ⟨rfl,hb⟩;have HK1:=qK (HK0.out.below hb);have HC1:=qK (HC0.out.keep hb);clear hb)
  | ((with_reducible refine cU.mono ?_);rintro e w2 ⟨rfl,hb⟩;have HK1:=qK (HK0.out.below hb);have HC1:=qK (HC0.out.keep hb);clear hb)
  | ((with_reducible refine cI.mono ?_);rintro e w2 ⟨rfl,hb⟩;have HK1:=qK (HK0.out.below hb);have HC1:=qK (HC0.out.keep hb);clear hb)
  | ((with_reducible refine cD.mono ?_);rintro e w2 ⟨rfl,hb⟩;have HK1:=qK (HK0.out.below hb);have HC1:=qK (HC0.out.keep hb);clear hb)
  | (refine(zR4 _ HC1.out).mono ?_;rintro e w3 ⟨rfl,hk,hc⟩;have HK2:=qK ((HK1.out.alloc _).trans hk);have HC2:=qK hc;clear hk hc)
  | (refine(zR4 _ HC0.out).mono ?_;rintro e w3 ⟨rfl,hk,hc⟩;have HK2:=qK ((HK0.out.alloc _).trans hk);have HC2:=qK hc;clear hk hc))
 all_goals
  go_end0
  first
  | refine⟨rfl,HK2.out,ck_q HC2.out ?_⟩
  | refine⟨rfl,HK0.out,ck_q0 HC0.out ?_⟩
  have h1:=HQ.out;have h2:=HqT.out.symm;have h3:=HqB.out.symm;have h4:=HqU.out.symm;have h5:=HqI.out.symm;have h6:=HqD.out.symm;clear HK0 HC0 HG0 e0 e1 e2 e3 e4 e5 e6 e7 e8 cT cB cU cI cD HQ HqT HqB HqU HqI HqD;subst h1 h2 h3 h4 h5 h6;unfold yT0;first
  | (simp_all;done)
  | (rw[Bool.eq_iff_iff];simp_all)
theorem mustB (g p:Nat)(wr acc dp:Bool)(l:List Bool)(w:World)(hC:CkAt w g (wr|| !acc) dp)(hB:Blk w p 4 (l.map Value.bool).toArray)(hl:l.length≤1000) :
  Calls Tryz.prog 95 #[.pointer (some ⟨g,0,none⟩),.slice (some ⟨p,0,none⟩) l.length l.length] w (zM9 g (wr|| !(acc&&l.all id)) dp w):=
 zD5 g wr acc dp (some ⟨p,0,none⟩) l.length l w hC (hB.sl (enc:=yU1) (fun _=>rfl) l (by
  clear hC hB hl;induction l with
  | nil=>rfl
  | cons x l ih=>simp only[List.map_cons,List.flatMap_cons];rw[←ih];simp[yU1])) hl
theorem xY0 {g p:Nat}{wr acc dp:Bool}(b c:Bool){w:World}(hC:CkAt w g (wr|| !acc) dp)(hB:Blk w p 4 #[.bool b,.bool c]) :
  Calls Tryz.prog 95 #[.pointer (some ⟨g,0,none⟩),.slice (some ⟨p,0,none⟩) 2 2] w (zM9 g (wr|| !(acc&&(b&&c))) dp w):=by
 have h:=mustB g p wr acc dp [b,c] w hC hB (by simp);simpa using h
theorem mustB3 {g p:Nat}{wr acc dp:Bool}(b c d:Bool){w:World}(hC:CkAt w g (wr|| !acc) dp)(hB:Blk w p 4 #[.bool b,.bool c,.bool d]) :
  Calls Tryz.prog 95 #[.pointer (some ⟨g,0,none⟩),.slice (some ⟨p,0,none⟩) 3 3] w (zM9 g (wr|| !(acc&&(b&&(c&&d)))) dp w):=by
 have h:=mustB g p wr acc dp [b,c,d] w hC hB (by simp);simpa using h
theorem mustB4 {g p:Nat}{wr acc dp:Bool}(b c d f:Bool){w:World}(hC:CkAt w g (wr|| !acc) dp)(hB:Blk w p 4 #[.bool b,.bool c,.bool d,.bool f]) :
  Calls Tryz.prog 95 #[.pointer (some ⟨g,0,none⟩),.slice (some ⟨p,0,none⟩) 4 4] w (zM9 g (wr|| !(acc&&(b&&(c&&(d&&f))))) dp w):=by
 have h:=mustB g p wr acc dp [b,c,d,f] w hC hB (by simp);simpa using h
set_option maxRecDepth 100000 in
theorem zH6 {o:Oper}{P:Program}{Q:Exit→Act→World→Prop}{K:Act→World→Prop}{W:World}{fs:List Fact}{G:Act→Prop}{aa ab ac ad ae af ag ah ai aj ak al am an ao ap aq ar au av aw ax ay az aA aB aC aD aE aF aG aH aI aJ aK aL aM aN aO aP aQ aR aS aT aU aV aW aX aY aZ a0 a1 a2 a3 a4 a5 a6 a7 a8 a9 ba bb bc bd be bf bg bh bi bj bk bl bm bn bo bp bq br:Value}(hG:∀ A,o.wp P A W K Q→G A)(h:o.wp P (Act.mk #[aa,ab,ac,ad,ae,af,ag,ah,ai,aj,ak,al,am,an,ao,ap,aq,ar,bg,bh,bi,bj,bk,bl,bm,bn,bo,bp,bq,br,aG,aH,aI,aJ,aK,aL,aM,aN,aO,aP,aQ,aR,aS,aT,aU,aV,aW,aX,aY,aZ,a0,a1,a2,a3,a4,a5,a6,a7,a8,a9,ba,bb,bc,bd,be,bf] []) W K Q):zY0 W G [] fs (Act.put (Act.put (Act.put (Act.put (Act.put (Act.put (Act.put (Act.put (Act.put (Act.put (Act.put (Act.put (Act.mk #[aa,ab,ac,ad,ae,af,ag,ah,ai,aj,ak,al,am,an,ao,ap,aq,ar,au,av,aw,ax,ay,az,aA,aB,aC,aD,aE,aF,aG,aH,aI,aJ,aK,aL,aM,aN,aO,aP,aQ,aR,aS,aT,aU,aV,aW,aX,aY,aZ,a0,a1,a2,a3,a4,a5,a6,a7,a8,a9,ba,bb,bc,bd,be,bf] []) (some 18) bg) (some 19) bh) (some 20) bi) (some 21) bj) (some 22) bk) (some 23) bl) (some 24) bm) (some 25) bn) (some 26) bo) (some 27) bp) (some 28) bq) (some 29) br):=
 zV2 qF hG h
set_option maxRecDepth 100000 in
set_option maxHeartbeats 8000000 in
theorem yT1 (g:Nat)(wr acc dp:Bool)(k:Int)(t:Tx)(n:Int)(a b:Tx)(As:Option Addr)(m cs:Nat)(Ad:Option Addr)(m2 cd:Nat)(At:Option Addr)(m3 ct:Nat)(pos:Int)(w:World)(hC:CkAt w g (wr|| !acc) dp)(hG:Glob w)(ht:t.length≤maxLen) :
  Calls Tryz.prog 204 #[.pointer (some ⟨g,0,none⟩),.agg #[.int .i64 k,.string ⟨t.toArray⟩,.int .i64 n,.string ⟨a.toArray⟩,.string ⟨b.toArray⟩,.slice As m cs,.slice Ad m2 cd,.slice At m3 ct,.int .i64 pos]] w (zM9 g (wr|| !(acc&&(zY7 t&&refP n a b m))) dp w):=by
 obtain⟨Z,hq⟩:∃ Z,Z=(wr|| !(acc&&(zY7 t&&refP n a b m))):=⟨_,rfl⟩;rw[←hq];have HQ:=qK (fun(x:Bool) (hx:x=refP n a b m)=>show (wr|| !(acc&&zY7 t&&x))=Z from by rw[hq,hx,Bool.and_assoc]);have HL:=qK ht;have hbox:=Blk.new w 67 #[.int .i64 k,.string ⟨t.toArray⟩,.int .i64 n,.string ⟨a.toArray⟩,.string ⟨b.toArray⟩,.slice As m cs,.slice Ad m2 cd,.slice At m3 ct,.int .i64 pos];have HNe:=qK (show w.heap.size≠g from fun e=>by have:=Blk.lt hC;omega);clear hq ht hbox;by_cases ha:a=[]
 ·subst ha;go_enter Tryz.func204,Tryz.ntmps204
  go_upto_region 1 with fail
  have q0:=Blk.new w 67 #[.int .i64 k,.string ⟨t.toArray⟩,.int .i64 n,.string ⟨#[]⟩,.string ⟨b.toArray⟩,.slice As m cs,.slice Ad m2 cd,.slice At m3 ct,.int .i64 pos];have HK0:=qK (show Kp (· = g) w (w.alloc (.cells #[.int .i64 k,.string ⟨t.toArray⟩,.int .i64 n,.string ⟨#[]⟩,.string ⟨b.toArray⟩,.slice As m cs,.slice Ad m2 cd,.slice At m3 ct,.int .i64 pos] 67)) from(Kp.refl _ _).alloc _);have HC0:=qK (hC.keep (qH.alloc qJ (.cells #[.int .i64 k,.string ⟨t.toArray⟩,.int .i64 n,.string ⟨#[]⟩,.string ⟨b.toArray⟩,.slice As m cs,.slice Ad m2 cd,.slice At m3 ct,.int .i64 pos] 67)));have HG0:=qK (hG.alloc (.cells #[.int .i64 k,.string ⟨t.toArray⟩,.int .i64 n,.string ⟨#[]⟩,.string ⟨b.toArray⟩,.slice As m cs,.slice Ad m2 cd,.slice At m3 ct,.int .i64 pos] 67));generalize w.alloc (.cells #[.int .i64 k,.string ⟨t.toArray⟩,.int .i64 n,.string ⟨#[]⟩,.string ⟨b.toArray⟩,.slice As m cs,.slice Ad m2 cd,.slice At m3 ct,.int .i64 pos] 67)=w1 at q0 HK0 HC0 HG0 ⊢;have Q0:=qK q0;have HZ0:=qK q0.lt;obtain⟨e0,e1,e2,e3,e4,e5,e6,e7,e8⟩:=zZ6 q0;clear q0 hC hG;go_wp2_with fail
  refine(zW1 t w1 HL.out).mono ?_;rintro e w2 ⟨rfl,hb⟩;have HK1:=qK (HK0.out.below hb);have HC1:=qK (HC0.out.keep hb);have HQ1:=qK (Q0.out.keep hb);obtain⟨d0,d1,d2,d3,d4,d5,d6,d7,d8⟩:=zZ6 HQ1.out;clear hb e0 e1 e2 e3 e4 e5 e6 e7 e8;go_wp2_with fail
  refine(zR4 _ HC1.out).mono ?_;rintro e w3 ⟨rfl,hk,hc⟩;have HK3:=qK ((HK1.out.alloc _).trans hk);have HC3:=qK hc;have HQ3:=qK (hk.blk (HQ1.out.keep (qH.alloc qJ _)) HNe.out);obtain⟨e0,e1,e2,e3,e4,e5,e6,e7,e8⟩:=zZ6 HQ3.out;have hz0:w.heap.size < w3.heap.size:=HQ3.out.lt;clear hk hc d0 d1 d2 d3 d4 d5 d6 d7 d8;go_upto_region 5 with fail
  apply zZ5 qF [isv _,isv _,isv _,isv _,isv _,isv _,isv _,isv _,isv _,isv _,isv _,(fun v W=>∃ p:Nat,v=.slice (some ⟨p,0,none⟩) 3 3∧Blk W p 4 #[.bool (decide (b=[])),.bool (((n:Int) == 0)),.bool (((m:Int) == 0))])] w3.heap.size w3 qJ qH.drew qF qF qF qF qF (qC (qC (qC (qC (qC (qC (qC (qC (qC (qC (qC (qA (fun _ _ _ ⟨p,e,h1⟩ hb=>⟨p,e,h1.keep hb⟩) trivial)))))))))))) ?steps (by rfl) _ rfl rfl ?fin;case steps=>
   refine qA (qS 0) (qA (qS 3) (qA ?_ ?_))
   ·intro AA W KK QQ hB hs hd hl hk;obtain⟨_,sl19,rfl⟩:=hd 1 19 qF rfl;clear hs hd hl;have hx3:=hB.cell (p:=⟨w.heap.size,3,none⟩) hz0;have hx4:=hB.cell (p:=⟨w.heap.size,4,none⟩) hz0;rw[e3] at hx3;rw[e4] at hx4;go_simp;exact hk _ _ rfl qH
   refine qA ?_ ?_
   ·intro AA W KK QQ hB hs hd hl hk;obtain⟨_,sl20,rfl⟩:=hd 2 20 qF rfl;clear hs hd hl;go_simp;refine(yU3 [] b W).mono ?_;rintro e W2 ⟨rfl,hb2⟩;exact hk _ _ rfl hb2
   refine qA (qS 3) (qA (jY 4 22) (qA (qQ 5 23) (qA (qS 3) (qA ?_ ?_))))
   ·intro AA W KK QQ hB hs hd hl hk;obtain⟨_,sl25,rfl⟩:=hd 7 25 qF rfl;clear hs hd hl;have hx5:=hB.cell (p:=⟨w.heap.size,5,none⟩) hz0;rw[e5] at hx5;go_simp;exact hk _ _ rfl qH
   refine qA (qQ 8 26) (qA (qQ 9 27) (qA ?_ ?_))
   ·intro AA W KK QQ hB hs hd hl hk;obtain⟨_,sl21,rfl⟩:=hd 3 21 qF rfl;obtain⟨_,sl24,rfl⟩:=hd 6 24 qF rfl;obtain⟨_,sl28,rfl⟩:=hd 10 28 qF rfl;clear hs hd hl;go_simp;exact hk _ _ ⟨_,rfl,Blk.new _ _ _⟩ (qH.alloc qJ _)
   exact trivial
  case fin=>
   intro wf hB GG hGG
   iterate 11 refine qN ?_
   refine zZ4 29 rfl ?_;rintro _ ⟨p,rfl,hP⟩;refine zH6 hGG ?_;have HKf:=qK (HK3.out.below hB);go_simp;refine(mustB3 _ _ _ (HC3.out.keep hB) hP).mono ?_;rintro e w4 ⟨rfl,hk,hc⟩;have HK4:=qK (HKf.out.trans hk);have HC4:=qK hc;clear hk hc hP hB;go_wp2
   go_end0
   exact⟨rfl,HK4.out,ck_z HC4.out (HQ.out _ (by unfold refP;rw[if_pos rfl,Bool.eq_iff_iff];simp[and_assoc]))⟩
 ·have ha1:(a == [])=false:=beq_eq_false_iff_ne.2 ha;have HA:=qK ha;by_cases hw:a=wLet∨a=zM8∨a=zC3∨a=zT6∨a=zT7
  ·clear ha;rcases hw with h | h | h | h | h
   ·have HW:=qK h;have c1:(a == [108,101,116])=true:=by rw[h];decide
    clear h;go_enter Tryz.func204,Tryz.ntmps204
    go_upto_region 1 with fail
    have q0:=Blk.new w 67 #[.int .i64 k,.string ⟨t.toArray⟩,.int .i64 n,.string ⟨a.toArray⟩,.string ⟨b.toArray⟩,.slice As m cs,.slice Ad m2 cd,.slice At m3 ct,.int .i64 pos];have HK0:=qK (show Kp (· = g) w (w.alloc (.cells #[.int .i64 k,.string ⟨t.toArray⟩,.int .i64 n,.string ⟨a.toArray⟩,.string ⟨b.toArray⟩,.slice As m cs,.slice Ad m2 cd,.slice At m3 ct,.int .i64 pos] 67)) from(Kp.refl _ _).alloc _);have HC0:=qK (hC.keep (qH.alloc qJ (.cells #[.int .i64 k,.string ⟨t.toArray⟩,.int .i64 n,.string ⟨a.toArray⟩,.string ⟨b.toArray⟩,.slice As m cs,.slice Ad m2 cd,.slice At m3 ct,.int .i64 pos] 67)));have HG0:=qK (hG.alloc (.cells #[.int .i64 k,.string ⟨t.toArray⟩,.int .i64 n,.string ⟨a.toArray⟩,.string ⟨b.toArray⟩,.slice As m cs,.slice Ad m2 cd,.slice At m3 ct,.int .i64 pos] 67));generalize w.alloc (.cells #[.int .i64 k,.string ⟨t.toArray⟩,.int .i64 n,.string ⟨a.toArray⟩,.string ⟨b.toArray⟩,.slice As m cs,.slice Ad m2 cd,.slice At m3 ct,.int .i64 pos] 67)=w1 at q0 HK0 HC0 HG0 ⊢;have Q0:=qK q0;have HZ0:=qK q0.lt;obtain⟨e0,e1,e2,e3,e4,e5,e6,e7,e8⟩:=zZ6 q0;clear q0 hC hG;go_wp2_with fail
    refine(zW1 t w1 HL.out).mono ?_;rintro e w2 ⟨rfl,hb⟩;have HK1:=qK (HK0.out.below hb);have HC1:=qK (HC0.out.keep hb);have HQ1:=qK (Q0.out.keep hb);obtain⟨d0,d1,d2,d3,d4,d5,d6,d7,d8⟩:=zZ6 HQ1.out;clear hb e0 e1 e2 e3 e4 e5 e6 e7 e8;go_wp2_with fail
    refine(zR4 _ HC1.out).mono ?_;rintro e w3 ⟨rfl,hk,hc⟩;have HK3:=qK ((HK1.out.alloc _).trans hk);have HC3:=qK hc;have HQ3:=qK (hk.blk (HQ1.out.keep (qH.alloc qJ _)) HNe.out);obtain⟨e0,e1,e2,e3,e4,e5,e6,e7,e8⟩:=zZ6 HQ3.out;have hz0:w.heap.size < w3.heap.size:=HQ3.out.lt;clear hk hc d0 d1 d2 d3 d4 d5 d6 d7 d8;go_wp2_with fail
    refine(xZ5 _ _ _ HC3.out).mono ?_;rintro e w4 ⟨rfl,hk,hc⟩;have HK4:=qK ((HK3.out.alloc _).trans hk);have HC4:=qK hc;clear hk hc;go_wp2
    go_end0
    exact⟨rfl,HK4.out,ck_z HC4.out (HQ.out _ (by unfold refP;rw[if_neg HA.out,HW.out];rw[Bool.eq_iff_iff];clear HK4 HC4 HC3 HK3 HQ3 e0 e1 e2 e3 e4 e5 e6 e7 e8;simp[wLet,zM8,zC3,zT6,zT7];(try (constructor <;> intro h <;> simp_all <;> omega))))⟩
   ·have HW:=qK h;have c1:(a == [108,101,116])=false:=by rw[h];decide
    have c2:(a == [102,105,101,108,100])=true:=by rw[h];decide
    clear h;go_enter Tryz.func204,Tryz.ntmps204
    go_upto_region 1 with fail
    have q0:=Blk.new w 67 #[.int .i64 k,.string ⟨t.toArray⟩,.int .i64 n,.string ⟨a.toArray⟩,.string ⟨b.toArray⟩,.slice As m cs,.slice Ad m2 cd,.slice At m3 ct,.int .i64 pos];have HK0:=qK (show Kp (· = g) w (w.alloc (.cells #[.int .i64 k,.string ⟨t.toArray⟩,.int .i64 n,.string ⟨a.toArray⟩,.string ⟨b.toArray⟩,.slice As m cs,.slice Ad m2 cd,.slice At m3 ct,.int .i64 pos] 67)) from(Kp.refl _ _).alloc _);have HC0:=qK (hC.keep (qH.alloc qJ (.cells #[.int .i64 k,.string ⟨t.toArray⟩,.int .i64 n,.string ⟨a.toArray⟩,.string ⟨b.toArray⟩,.slice As m cs,.slice Ad m2 cd,.slice At m3 ct,.int .i64 pos] 67)));have HG0:=qK (hG.alloc (.cells #[.int .i64 k,.string ⟨t.toArray⟩,.int .i64 n,.string ⟨a.toArray⟩,.string ⟨b.toArray⟩,.slice As m cs,.slice Ad m2 cd,.slice At m3 ct,.int .i64 pos] 67));generalize w.alloc (.cells #[.int .i64 k,.string ⟨t.toArray⟩,.int .i64 n,.string ⟨a.toArray⟩,.string ⟨b.toArray⟩,.slice As m cs,.slice Ad m2 cd,.slice At m3 ct,.int .i64 pos] 67)=w1 at q0 HK0 HC0 HG0 ⊢;have Q0:=qK q0;have HZ0:=qK q0.lt;obtain⟨e0,e1,e2,e3,e4,e5,e6,e7,e8⟩:=zZ6 q0;clear q0 hC hG;go_wp2_with fail
    refine(zW1 t w1 HL.out).mono ?_;rintro e w2 ⟨rfl,hb⟩;have HK1:=qK (HK0.out.below hb);have HC1:=qK (HC0.out.keep hb);have HQ1:=qK (Q0.out.keep hb);obtain⟨d0,d1,d2,d3,d4,d5,d6,d7,d8⟩:=zZ6 HQ1.out;clear hb e0 e1 e2 e3 e4 e5 e6 e7 e8;go_wp2_with fail
    refine(zR4 _ HC1.out).mono ?_;rintro e w3 ⟨rfl,hk,hc⟩;have HK3:=qK ((HK1.out.alloc _).trans hk);have HC3:=qK hc;have HQ3:=qK (hk.blk (HQ1.out.keep (qH.alloc qJ _)) HNe.out);obtain⟨e0,e1,e2,e3,e4,e5,e6,e7,e8⟩:=zZ6 HQ3.out;have hz0:w.heap.size < w3.heap.size:=HQ3.out.lt;clear hk hc d0 d1 d2 d3 d4 d5 d6 d7 d8;go_wp2_with fail
    refine(xZ5 _ _ _ HC3.out).mono ?_;rintro e w4 ⟨rfl,hk,hc⟩;have HK4:=qK ((HK3.out.alloc _).trans hk);have HC4:=qK hc;clear hk hc;go_wp2
    go_end0
    exact⟨rfl,HK4.out,ck_z HC4.out (HQ.out _ (by unfold refP;rw[if_neg HA.out,HW.out];rw[Bool.eq_iff_iff];clear HK4 HC4 HC3 HK3 HQ3 e0 e1 e2 e3 e4 e5 e6 e7 e8;simp[wLet,zM8,zC3,zT6,zT7];(try (constructor <;> intro h <;> simp_all <;> omega))))⟩
   ·have HW:=qK h;have c1:(a == [108,101,116])=false:=by rw[h];decide
    have c2:(a == [102,105,101,108,100])=false:=by rw[h];decide
    have c3:(a == [108,111,111,112])=true:=by rw[h];decide
    clear h;go_enter Tryz.func204,Tryz.ntmps204
    go_upto_region 1 with fail
    have q0:=Blk.new w 67 #[.int .i64 k,.string ⟨t.toArray⟩,.int .i64 n,.string ⟨a.toArray⟩,.string ⟨b.toArray⟩,.slice As m cs,.slice Ad m2 cd,.slice At m3 ct,.int .i64 pos];have HK0:=qK (show Kp (· = g) w (w.alloc (.cells #[.int .i64 k,.string ⟨t.toArray⟩,.int .i64 n,.string ⟨a.toArray⟩,.string ⟨b.toArray⟩,.slice As m cs,.slice Ad m2 cd,.slice At m3 ct,.int .i64 pos] 67)) from(Kp.refl _ _).alloc _);have HC0:=qK (hC.keep (qH.alloc qJ (.cells #[.int .i64 k,.string ⟨t.toArray⟩,.int .i64 n,.string ⟨a.toArray⟩,.string ⟨b.toArray⟩,.slice As m cs,.slice Ad m2 cd,.slice At m3 ct,.int .i64 pos] 67)));have HG0:=qK (hG.alloc (.cells #[.int .i64 k,.string ⟨t.toArray⟩,.int .i64 n,.string ⟨a.toArray⟩,.string ⟨b.toArray⟩,.slice As m cs,.slice Ad m2 cd,.slice At m3 ct,.int .i64 pos] 67));generalize w.alloc (.cells #[.int .i64 k,.string ⟨t.toArray⟩,.int .i64 n,.string ⟨a.toArray⟩,.string ⟨b.toArray⟩,.slice As m cs,.slice Ad m2 cd,.slice At m3 ct,.int .i64 pos] 67)=w1 at q0 HK0 HC0 HG0 ⊢;have Q0:=qK q0;have HZ0:=qK q0.lt;obtain⟨e0,e1,e2,e3,e4,e5,e6,e7,e8⟩:=zZ6 q0;clear q0 hC hG;go_wp2_with fail
    refine(zW1 t w1 HL.out).mono ?_;rintro e w2 ⟨rfl,hb⟩;have HK1:=qK (HK0.out.below hb);have HC1:=qK (HC0.out.keep hb);have HQ1:=qK (Q0.out.keep hb);obtain⟨d0,d1,d2,d3,d4,d5,d6,d7,d8⟩:=zZ6 HQ1.out;clear hb e0 e1 e2 e3 e4 e5 e6 e7 e8;go_wp2_with fail
    refine(zR4 _ HC1.out).mono ?_;rintro e w3 ⟨rfl,hk,hc⟩;have HK3:=qK ((HK1.out.alloc _).trans hk);have HC3:=qK hc;have HQ3:=qK (hk.blk (HQ1.out.keep (qH.alloc qJ _)) HNe.out);obtain⟨e0,e1,e2,e3,e4,e5,e6,e7,e8⟩:=zZ6 HQ3.out;have hz0:w.heap.size < w3.heap.size:=HQ3.out.lt;clear hk hc d0 d1 d2 d3 d4 d5 d6 d7 d8;go_wp2_with fail
    refine(xZ5 _ _ _ HC3.out).mono ?_;rintro e w4 ⟨rfl,hk,hc⟩;have HK4:=qK ((HK3.out.alloc _).trans hk);have HC4:=qK hc;clear hk hc;go_wp2
    go_end0
    exact⟨rfl,HK4.out,ck_z HC4.out (HQ.out _ (by unfold refP;rw[if_neg HA.out,HW.out];rw[Bool.eq_iff_iff];clear HK4 HC4 HC3 HK3 HQ3 e0 e1 e2 e3 e4 e5 e6 e7 e8;simp[wLet,zM8,zC3,zT6,zT7];(try (constructor <;> intro h <;> simp_all <;> omega))))⟩
   ·have HW:=qK h;have c1:(a == [108,101,116])=false:=by rw[h];decide
    have c2:(a == [102,105,101,108,100])=false:=by rw[h];decide
    have c3:(a == [108,111,111,112])=false:=by rw[h];decide
    have c4:(a == [112,97,99,107,97,103,101])=true:=by rw[h];decide
    clear h;go_enter Tryz.func204,Tryz.ntmps204
    go_upto_region 1 with fail
    have q0:=Blk.new w 67 #[.int .i64 k,.string ⟨t.toArray⟩,.int .i64 n,.string ⟨a.toArray⟩,.string ⟨b.toArray⟩,.slice As m cs,.slice Ad m2 cd,.slice At m3 ct,.int .i64 pos];have HK0:=qK (show Kp (· = g) w (w.alloc (.cells #[.int .i64 k,.string ⟨t.toArray⟩,.int .i64 n,.string ⟨a.toArray⟩,.string ⟨b.toArray⟩,.slice As m cs,.slice Ad m2 cd,.slice At m3 ct,.int .i64 pos] 67)) from(Kp.refl _ _).alloc _);have HC0:=qK (hC.keep (qH.alloc qJ (.cells #[.int .i64 k,.string ⟨t.toArray⟩,.int .i64 n,.string ⟨a.toArray⟩,.string ⟨b.toArray⟩,.slice As m cs,.slice Ad m2 cd,.slice At m3 ct,.int .i64 pos] 67)));have HG0:=qK (hG.alloc (.cells #[.int .i64 k,.string ⟨t.toArray⟩,.int .i64 n,.string ⟨a.toArray⟩,.string ⟨b.toArray⟩,.slice As m cs,.slice Ad m2 cd,.slice At m3 ct,.int .i64 pos] 67));generalize w.alloc (.cells #[.int .i64 k,.string ⟨t.toArray⟩,.int .i64 n,.string ⟨a.toArray⟩,.string ⟨b.toArray⟩,.slice As m cs,.slice Ad m2 cd,.slice At m3 ct,.int .i64 pos] 67)=w1 at q0 HK0 HC0 HG0 ⊢;have Q0:=qK q0;have HZ0:=qK q0.lt;obtain⟨e0,e1,e2,e3,e4,e5,e6,e7,e8⟩:=zZ6 q0;clear q0 hC hG;go_wp2_with fail
    refine(zW1 t w1 HL.out).mono ?_;rintro e w2 ⟨rfl,hb⟩;have HK1:=qK (HK0.out.below hb);have HC1:=qK (HC0.out.keep hb);have HQ1:=qK (Q0.out.keep hb);obtain⟨d0,d1,d2,d3,d4,d5,d6,d7,d8⟩:=zZ6 HQ1.out;clear hb e0 e1 e2 e3 e4 e5 e6 e7 e8;go_wp2_with fail
    refine(zR4 _ HC1.out).mono ?_;rintro e w3 ⟨rfl,hk,hc⟩;have HK3:=qK ((HK1.out.alloc _).trans hk);have HC3:=qK hc;have HQ3:=qK (hk.blk (HQ1.out.keep (qH.alloc qJ _)) HNe.out);obtain⟨e0,e1,e2,e3,e4,e5,e6,e7,e8⟩:=zZ6 HQ3.out;have hz0:w.heap.size < w3.heap.size:=HQ3.out.lt;clear hk hc d0 d1 d2 d3 d4 d5 d6 d7 d8;go_wp2_with fail
    refine(xZ5 _ _ _ HC3.out).mono ?_;rintro e w4 ⟨rfl,hk,hc⟩;have HK4:=qK ((HK3.out.alloc _).trans hk);have HC4:=qK hc;clear hk hc;go_wp2
    go_end0
    exact⟨rfl,HK4.out,ck_z HC4.out (HQ.out _ (by unfold refP;rw[if_neg HA.out,HW.out];rw[Bool.eq_iff_iff];clear HK4 HC4 HC3 HK3 HQ3 e0 e1 e2 e3 e4 e5 e6 e7 e8;simp[wLet,zM8,zC3,zT6,zT7];(try (constructor <;> intro h <;> simp_all <;> omega))))⟩
   ·have HW:=qK h;have c1:(a == [108,101,116])=false:=by rw[h];decide
    have c2:(a == [102,105,101,108,100])=false:=by rw[h];decide
    have c3:(a == [108,111,111,112])=false:=by rw[h];decide
    have c4:(a == [112,97,99,107,97,103,101])=false:=by rw[h];decide
    have c5:(a == [117,110,107,110,111,119,110])=true:=by rw[h];decide
    clear h;go_enter Tryz.func204,Tryz.ntmps204
    go_upto_region 1 with fail
    have q0:=Blk.new w 67 #[.int .i64 k,.string ⟨t.toArray⟩,.int .i64 n,.string ⟨a.toArray⟩,.string ⟨b.toArray⟩,.slice As m cs,.slice Ad m2 cd,.slice At m3 ct,.int .i64 pos];have HK0:=qK (show Kp (· = g) w (w.alloc (.cells #[.int .i64 k,.string ⟨t.toArray⟩,.int .i64 n,.string ⟨a.toArray⟩,.string ⟨b.toArray⟩,.slice As m cs,.slice Ad m2 cd,.slice At m3 ct,.int .i64 pos] 67)) from(Kp.refl _ _).alloc _);have HC0:=qK (hC.keep (qH.alloc qJ (.cells #[.int .i64 k,.string ⟨t.toArray⟩,.int .i64 n,.string ⟨a.toArray⟩,.string ⟨b.toArray⟩,.slice As m cs,.slice Ad m2 cd,.slice At m3 ct,.int .i64 pos] 67)));have HG0:=qK (hG.alloc (.cells #[.int .i64 k,.string ⟨t.toArray⟩,.int .i64 n,.string ⟨a.toArray⟩,.string ⟨b.toArray⟩,.slice As m cs,.slice Ad m2 cd,.slice At m3 ct,.int .i64 pos] 67));generalize w.alloc (.cells #[.int .i64 k,.string ⟨t.toArray⟩,.int .i64 n,.string ⟨a.toArray⟩,.string ⟨b.toArray⟩,.slice As m cs,.slice Ad m2 cd,.slice At m3 ct,.int .i64 pos] 67)=w1 at q0 HK0 HC0 HG0 ⊢;have Q0:=qK q0;have HZ0:=qK q0.lt;obtain⟨e0,e1,e2,e3,e4,e5,e6,e7,e8⟩:=zZ6 q0;clear q0 hC hG;go_wp2_with fail
    refine(zW1 t w1 HL.out).mono ?_;rintro e w2 ⟨rfl,hb⟩;have HK1:=qK (HK0.out.below hb);have HC1:=qK (HC0.out.keep hb);have HQ1:=qK (Q0.out.keep hb);obtain⟨d0,d1,d2,d3,d4,d5,d6,d7,d8⟩:=zZ6 HQ1.out;clear hb e0 e1 e2 e3 e4 e5 e6 e7 e8;go_wp2_with fail
    refine(zR4 _ HC1.out).mono ?_;rintro e w3 ⟨rfl,hk,hc⟩;have HK3:=qK ((HK1.out.alloc _).trans hk);have HC3:=qK hc;have HQ3:=qK (hk.blk (HQ1.out.keep (qH.alloc qJ _)) HNe.out);obtain⟨e0,e1,e2,e3,e4,e5,e6,e7,e8⟩:=zZ6 HQ3.out;have hz0:w.heap.size < w3.heap.size:=HQ3.out.lt;clear hk hc d0 d1 d2 d3 d4 d5 d6 d7 d8;go_wp2_with fail
    refine(xZ5 _ _ _ HC3.out).mono ?_;rintro e w4 ⟨rfl,hk,hc⟩;have HK4:=qK ((HK3.out.alloc _).trans hk);have HC4:=qK hc;clear hk hc;go_wp2
    go_end0
    exact⟨rfl,HK4.out,ck_z HC4.out (HQ.out _ (by unfold refP;rw[if_neg HA.out,HW.out];rw[Bool.eq_iff_iff];clear HK4 HC4 HC3 HK3 HQ3 e0 e1 e2 e3 e4 e5 e6 e7 e8;simp[wLet,zM8,zC3,zT6,zT7];(try (constructor <;> intro h <;> simp_all <;> omega))))⟩
  ·obtain⟨h1,h2,h3,h4,h5⟩:¬ a=wLet∧¬ a=zM8∧¬ a=zC3∧¬ a=zT6∧¬ a=zT7:=by simpa[not_or] using hw
   have HW:=qK (And.intro h1 (And.intro h2 (And.intro h3 (And.intro h4 h5))));have c1:(a == [108,101,116])=false:=beq_eq_false_iff_ne.2 h1;have c2:(a == [102,105,101,108,100])=false:=beq_eq_false_iff_ne.2 h2;have c3:(a == [108,111,111,112])=false:=beq_eq_false_iff_ne.2 h3;have c4:(a == [112,97,99,107,97,103,101])=false:=beq_eq_false_iff_ne.2 h4;have c5:(a == [117,110,107,110,111,119,110])=false:=beq_eq_false_iff_ne.2 h5;clear ha hw h1 h2 h3 h4 h5;go_enter Tryz.func204,Tryz.ntmps204
   go_upto_region 1 with fail
   have q0:=Blk.new w 67 #[.int .i64 k,.string ⟨t.toArray⟩,.int .i64 n,.string ⟨a.toArray⟩,.string ⟨b.toArray⟩,.slice As m cs,.slice Ad m2 cd,.slice At m3 ct,.int .i64 pos];have HK0:=qK (show Kp (· = g) w (w.alloc (.cells #[.int .i64 k,.string ⟨t.toArray⟩,.int .i64 n,.string ⟨a.toArray⟩,.string ⟨b.toArray⟩,.slice As m cs,.slice Ad m2 cd,.slice At m3 ct,.int .i64 pos] 67)) from(Kp.refl _ _).alloc _);have HC0:=qK (hC.keep (qH.alloc qJ (.cells #[.int .i64 k,.string ⟨t.toArray⟩,.int .i64 n,.string ⟨a.toArray⟩,.string ⟨b.toArray⟩,.slice As m cs,.slice Ad m2 cd,.slice At m3 ct,.int .i64 pos] 67)));have HG0:=qK (hG.alloc (.cells #[.int .i64 k,.string ⟨t.toArray⟩,.int .i64 n,.string ⟨a.toArray⟩,.string ⟨b.toArray⟩,.slice As m cs,.slice Ad m2 cd,.slice At m3 ct,.int .i64 pos] 67));generalize w.alloc (.cells #[.int .i64 k,.string ⟨t.toArray⟩,.int .i64 n,.string ⟨a.toArray⟩,.string ⟨b.toArray⟩,.slice As m cs,.slice Ad m2 cd,.slice At m3 ct,.int .i64 pos] 67)=w1 at q0 HK0 HC0 HG0 ⊢;have Q0:=qK q0;have HZ0:=qK q0.lt;obtain⟨e0,e1,e2,e3,e4,e5,e6,e7,e8⟩:=zZ6 q0;clear q0 hC hG;go_wp2_with fail
   refine(zW1 t w1 HL.out).mono ?_;rintro e w2 ⟨rfl,hb⟩;have HK1:=qK (HK0.out.below hb);have HC1:=qK (HC0.out.keep hb);have HQ1:=qK (Q0.out.keep hb);obtain⟨d0,d1,d2,d3,d4,d5,d6,d7,d8⟩:=zZ6 HQ1.out;clear hb e0 e1 e2 e3 e4 e5 e6 e7 e8;go_wp2_with fail
   refine(zR4 _ HC1.out).mono ?_;rintro e w3 ⟨rfl,hk,hc⟩;have HK3:=qK ((HK1.out.alloc _).trans hk);have HC3:=qK hc;have HQ3:=qK (hk.blk (HQ1.out.keep (qH.alloc qJ _)) HNe.out);obtain⟨e0,e1,e2,e3,e4,e5,e6,e7,e8⟩:=zZ6 HQ3.out;have hz0:w.heap.size < w3.heap.size:=HQ3.out.lt;clear hk hc d0 d1 d2 d3 d4 d5 d6 d7 d8;go_wp2_with fail
   refine(zR4 _ HC3.out).mono ?_;rintro e w4 ⟨rfl,hk,hc⟩;have HK4:=qK ((HK3.out.alloc _).trans hk);have HC4:=qK hc;clear hk hc;go_wp2
   go_end0
   exact⟨rfl,HK4.out,ck_z HC4.out (HQ.out _ (by unfold refP;rw[if_neg HA.out];simp[HW.out.1,HW.out.2.1,HW.out.2.2.1,HW.out.2.2.2.1,HW.out.2.2.2.2]))⟩
end Go.Proofs.YtdgehhgjgifikaaGreatDoor
