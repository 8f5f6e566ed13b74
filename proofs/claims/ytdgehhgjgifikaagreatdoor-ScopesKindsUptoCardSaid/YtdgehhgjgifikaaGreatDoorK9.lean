/- What the claim needs of:TF YJ TB TD OM TN. -/
import Derived.Test.YtdgehhgjgifikaaGreatDoorK7
import Derived.Test.YtdgehhgjgifikaaGreatDoorK8
import Derived.Test.YtdgehhgjgifikaaGreatDoorK1
import Derived.Test.YtdgehhgjgifikaaGreatDoorK6
import Derived.Maps.OwnSet
import Derived.Maps.RangeWalk
import Derived.StringKeys
import Derived.Test.YtdgehhgjgifikaaGreatDoorProg
import Derived.Sort.KeysCollected
namespace Go.Proofs.YtdgehhgjgifikaaGreatDoor
open Go.RowKit
structure FA where
 pkg:Tx
 Ai:Option Addr
 ci:Nat
 imps:List Imp
 Ad:Option Addr
 cd:Nat
 decls:List DA
 At:Option Addr
 ct:Nat
 tail:List Tx
def encI (x:Imp):List Value:=[.string ⟨x.name.toArray⟩,.string ⟨x.path.toArray⟩,.int .i64 x.pos]
theorem zN2 (x:Imp):(encI x).length=3:=rfl
def encF (f:FA):List Value:=[.string ⟨f.pkg.toArray⟩,.slice f.Ai f.imps.length f.ci,.slice f.Ad f.decls.length f.cd,.slice f.At f.tail.length f.ct]
theorem yH6 (f:FA):(encF f).length=4:=rfl
def plF (f:FA):Fl:=⟨f.pkg,f.imps,plDs f.decls,f.tail⟩
structure OkF (w:World)(B:Nat)(f:FA):Prop where
 pkg:f.pkg.length≤maxLen
 imps:SlN w B 3 encI f.Ai f.imps
 names:∀ x∈f.imps,x.name.length≤maxLen
 decls:SlN w B 11 encD f.Ad f.decls
 trees:OkAds w B f.decls
 tail:SlN w B 1 encS f.At f.tail
theorem OkF.below {w w':World}{B:Nat}{f:FA}(h:OkF w B f)(hb:Below B w w'):OkF w' B f:=
 ⟨h.pkg,h.imps.below hb,h.names,h.decls.below hb,(zW2 hb).2.2.2 _ h.trees,h.tail.below hb⟩
theorem SlN.more {α:Type}{w:World}{B B' k:Nat}{enc:α→List Value}{A:Option Addr}{l:List α}(h:SlN w B k enc A l)(hB:B≤B'):SlN w B' k enc A l:=⟨h.1.more hB,h.2⟩
theorem zV8 {w:World}{B B':Nat}(hB:B≤B'):(∀ e,OkA w B e→OkA w B' e)∧(∀ d,OkAd w B d→OkAd w B' d)∧(∀ l,OkAs w B l→OkAs w B' l)∧∀ l,OkAds w B l→OkAds w B' l:=
 zY9 (fun _ _ _ _ _ _ _ _ _ _ _ _ _ _ _ h1 h2 h=>⟨h.1,h.2.1.more hB,h1 h.2.2.1,h.2.2.2.1.more hB,h2 h.2.2.2.2.1,h.2.2.2.2.2.more hB⟩)
  (fun _ _ _ _ _ _ _ _ _ _ _ _ _ _ _ _ _ _ _ h1 h2 h=>⟨h.1,h.2.1.more hB,h1 h.2.2.1,h.2.2.2.1.more hB,h2 h.2.2.2.2.1,h.2.2.2.2.2.1.more hB,h.2.2.2.2.2.2.more hB⟩)
  (fun _=>trivial) (fun _ _ h1 h2 h=>⟨h1 h.1,h2 h.2⟩) (fun _=>trivial) (fun _ _ h1 h2 h=>⟨h1 h.1,h2 h.2⟩)
theorem OkF.more {w:World}{B B':Nat}{f:FA}(h:OkF w B f)(hB:B≤B'):OkF w B' f:=
 ⟨h.pkg,h.imps.more hB,h.names,h.decls.more hB,(zV8 hB).2.2.2 _ h.trees,h.tail.more hB⟩
structure PA where
 path:Tx
 A:Option Addr
 c:Nat
 files:List FA
def plP (p:PA):Pk:=⟨p.path,p.files.map plF⟩
structure OkP (w:World)(B:Nat)(p:PA):Prop where
 path:p.path.length≤maxLen
 files:SlN w B 4 encF p.A p.files
 each:∀ f∈p.files,OkF w B f
theorem OkP.below {w w':World}{B:Nat}{p:PA}(h:OkP w B p)(hb:Below B w w'):OkP w' B p:=⟨h.path,h.files.below hb,fun f hf=>(h.each f hf).below hb⟩
theorem OkP.more {w:World}{B B':Nat}{p:PA}(h:OkP w B p)(hB:B≤B'):OkP w B' p:=⟨h.path,h.files.more hB,fun f hf=>(h.each f hf).more hB⟩
theorem trees_ok (rx:Tx→Bool)(w0:World)(B:Nat):(∀ e,OkA w0 B e→PatE (RxOk rx) (plE e)→yO4 rx w0 B e)∧(∀ d,OkAd w0 B d→PatD (RxOk rx) (plD d)→yX2 rx w0 B d)∧(∀ l,OkAs w0 B l→PatEs (RxOk rx) (plEs l)→∀ e∈l,yO4 rx w0 B e)∧∀ l,OkAds w0 B l→PatDs (RxOk rx) (plDs l)→∀ d∈l,yX2 rx w0 B d:=
 zY9
  (fun k t n a b As cs subs Ad cd decls At ct tail pos h1 h2 h hp=>expr_any rx w0 B k t n a b As cs subs Ad cd decls At ct tail pos h (h1 h.2.2.1 hp.1) (h2 h.2.2.2.2.1 hp.2))
  (fun k p l a b As cs subs Ab cb body At ct tail Al cl lead trail pos h1 h2 h hp=>decl_any rx w0 B k p l a b As cs subs Ab cb body At ct tail Al cl lead trail pos h hp.1 (h1 h.2.2.1 hp.2.1) (h2 h.2.2.2.2.1 hp.2.2))
  (fun _ _ _ he=>absurd he List.not_mem_nil)
  (fun e l h1 h2 h hp x hx=>by
   rcases List.mem_cons.1 hx with rfl | hx
   ·exact h1 h.1 hp.1
   ·exact h2 h.2 hp.2 x hx)
  (fun _ _ _ he=>absurd he List.not_mem_nil)
  (fun d l h1 h2 h hp x hx=>by
   rcases List.mem_cons.1 hx with rfl | hx
   ·exact h1 h.1 hp.1
   ·exact h2 h.2 hp.2 x hx)
structure FileSt (w:World)(X dp:Bool)(F:Array Value)(wx:World):Prop where
 hk:Kp (· = w.heap.size+1) w wx
 hc:CkAt wx (w.heap.size+1) X dp
 hf:Blk wx w.heap.size 58 F
 hg:Glob wx
section
variable {w wx wy:World}{X Y dp dp':Bool}{F:Array Value}
theorem FileSt.below (h:FileSt w X dp F wx)(hb:Below wx.heap.size wx wy):FileSt w X dp F wy:=⟨h.hk.below hb,h.hc.keep hb,h.hf.keep hb,h.hg.keep hb⟩
theorem FileSt.step (h:FileSt w X dp F wx)(hk:Kp (· = w.heap.size+1) wx wy)(hc:CkAt wy (w.heap.size+1) Y dp'):FileSt w Y dp' F wy:=⟨h.hk.trans hk,hc,hk.blk h.hf qG,h.hg.keepK h.hc hk⟩
theorem FileSt.cast (h:FileSt w X dp F wx)(e:X=Y):FileSt w Y dp F wx:=e▸h
theorem FileSt.low (h:FileSt w X dp F wx):Below w.heap.size w wx:=h.hk.toBelow qJ fun i hi=>by omega
end
theorem impC {w:World}{g:Nat}{ty:TypeId}{v0 v1 v2:Value}(h:Blk w g ty #[v0,v1,v2]):w.cell? ⟨g,0,none⟩=some v0∧w.cell? ⟨g,1,none⟩=some v1∧w.cell? ⟨g,2,none⟩=some v2:=⟨h.cell 0,h.cell 1,h.cell 2⟩
theorem ck_errF (rx:Tx→Bool)(f:FA):ckErr (!(((decide (f.pkg=[])||zY7 f.pkg)&& !zY2 f.tail)&&(f.imps.all fun x=>zY7 x.name)&&okDs rx true (plDs f.decls))) ((plDs f.decls).any fun d=>fD d 1)=errF rx (plF f):=by
 unfold ckErr errF;have e:okF rx (plF f)=(((decide (f.pkg=[])||zY7 f.pkg)&& !zY2 f.tail)&&(f.imps.all fun x=>zY7 x.name)&&okDs rx true (plDs f.decls)):=by
  unfold okF plF;simp only[Bool.and_assoc];congr 2;rw[Bool.and_comm]
 rw[e,yT3];have e2:(plF f).decls=plDs f.decls:=rfl;rw[e2];have e3:(decide (plDs f.decls≠[]∧(16:Int) < 1+(dpDs (plDs f.decls):Int)-1))=decide (16 < dpDs (plDs f.decls)):=by
  rw[decide_eq_decide];cases hd:plDs f.decls with
  | nil=>simp[dpDs]
  | cons x r=>
    simp only[ne_eq,reduceCtorEq,not_false_eq_true,true_and];omega
 rw[e3];cases hq:(((decide (f.pkg=[])||zY7 f.pkg)&& !zY2 f.tail)&&(f.imps.all fun x=>zY7 x.name)&&okDs rx true (plDs f.decls)) with
 | false=>simp
 | true=>simp
set_option maxRecDepth 100000 in
theorem zH7 {o:Oper}{P:Program}{Q:Exit→Act→World→Prop}{K:Act→World→Prop}{W:World}{fs:List Fact}{G:Act→Prop}{aa ab ac ad ae af ag ah ai aj ak al am an ao ap aq ar au av aw ax ay az aA aB aC aD aE aF aG aH aI aJ aK aL aM aN aO aP aQ aR aS aT aU aV aW aX aY aZ a0 a1 a2 a3 a4:Value}(hG:∀ A,o.wp P A W K Q→G A)(h:o.wp P (Act.mk #[aa,ab,ac,ad,ae,af,ag,ah,aS,aT,aU,aV,aW,aX,aY,aZ,a0,a1,a2,a3,a4,ax,ay,az,aA,aB,aC,aD,aE,aF,aG,aH,aI,aJ,aK,aL,aM,aN,aO,aP,aQ,aR] []) W K Q):zY0 W G [] fs (Act.put (Act.put (Act.put (Act.put (Act.put (Act.put (Act.put (Act.put (Act.put (Act.put (Act.put (Act.put (Act.put (Act.mk #[aa,ab,ac,ad,ae,af,ag,ah,ai,aj,ak,al,am,an,ao,ap,aq,ar,au,av,aw,ax,ay,az,aA,aB,aC,aD,aE,aF,aG,aH,aI,aJ,aK,aL,aM,aN,aO,aP,aQ,aR] []) (some 8) aS) (some 9) aT) (some 10) aU) (some 11) aV) (some 12) aW) (some 13) aX) (some 14) aY) (some 15) aZ) (some 16) a0) (some 17) a1) (some 18) a2) (some 19) a3) (some 20) a4):=
 zV2 qF hG h
set_option maxRecDepth 100000 in
set_option maxHeartbeats 8000000 in
theorem yO5 (rx:Tx→Bool)(fpkg:Tx)(fAi:Option Addr)(fci:Nat)(fimps:List Imp)(fAd:Option Addr)(fcd:Nat)(fdecls:List DA)(fAt:Option Addr)(fct:Nat)(ftail:List Tx)(w:World)(hO:OkF w w.heap.size ⟨fpkg,fAi,fci,fimps,fAd,fcd,fdecls,fAt,fct,ftail⟩)(hR:PatDs (RxOk rx) (plDs fdecls))(hG:Glob w)(hd:dpDs (plDs fdecls)≤1099511627000) :
  Calls Tryz.prog 63 #[.agg #[.string ⟨fpkg.toArray⟩,.slice fAi fimps.length fci,.slice fAd fdecls.length fcd,.slice fAt ftail.length fct]] w fun e w'=>e=.returned (.int .i64 (errF rx (plF ⟨fpkg,fAi,fci,fimps,fAd,fcd,fdecls,fAt,fct,ftail⟩)))∧Below w.heap.size w w':=by
 have HE:=qK (ck_errF rx ⟨fpkg,fAi,fci,fimps,fAd,fcd,fdecls,fAt,fct,ftail⟩);obtain⟨Z,hZ⟩:∃ Z,Z=errF rx (plF ⟨fpkg,fAi,fci,fimps,fAd,fcd,fdecls,fAt,fct,ftail⟩):=⟨_,rfl⟩;rw[←hZ];have HZ:=qK hZ;have S0:FileSt w (false|| !true) (false) #[.string ⟨fpkg.toArray⟩,.slice fAi fimps.length fci,.slice fAd fdecls.length fcd,.slice fAt ftail.length fct] ((w.alloc (.cells #[.string ⟨fpkg.toArray⟩,.slice fAi fimps.length fci,.slice fAd fdecls.length fcd,.slice fAt ftail.length fct] 58)).alloc (.cells #[.bool false,.bool false] 165)):=by
  have hb2:Below w.heap.size w ((w.alloc (.cells #[.string ⟨fpkg.toArray⟩,.slice fAi fimps.length fci,.slice fAd fdecls.length fcd,.slice fAt ftail.length fct] 58)).alloc (.cells #[.bool false,.bool false] 165)):=(qH.alloc qJ _).alloc (by simp) _;refine⟨Kp.ofBelow hb2 _,?_,(Blk.new w _ _).alloc _,hG.keep hb2⟩;have:=Blk.new (w.alloc (.cells #[.string ⟨fpkg.toArray⟩,.slice fAi fimps.length fci,.slice fAd fdecls.length fcd,.slice fAt ftail.length fct] 58)) 165 #[.bool false,.bool false];rw[World.size_alloc] at this;exact this
 have hDO:=(trees_ok rx w w.heap.size).2.2.2 fdecls hO.trees hR;have HDO:=qK hDO;have hli:=hO.imps.2;have hld:=hO.decls.2;have hlt:=hO.tail.2;have HO:=qK hO;clear hO;have hO:=HO;clear HO hDO hZ hR hG;go_enter Tryz.func63,Tryz.ntmps63
 go_upto_region 2 with fail
 generalize (w.alloc (.cells #[.string ⟨fpkg.toArray⟩,.slice fAi fimps.length fci,.slice fAd fdecls.length fcd,.slice fAt ftail.length fct] 58)).alloc (.cells #[.bool false,.bool false] 165)=w1 at S0 ⊢;obtain⟨e0,e1,e2,e3⟩:=posC S0.hf;have HBw:=qK S0.low;go_cut [] from 8 to 21 (fun wx=>FileSt w (false|| !(true&&((decide (fpkg=[])||zY7 fpkg)&& !zY2 ftail))) (false) #[.string ⟨fpkg.toArray⟩,.slice fAi fimps.length fci,.slice fAd fdecls.length fcd,.slice fAt ftail.length fct] wx)
 case first=>
  have hz0:w.heap.size < w1.heap.size:=S0.hf.lt;by_cases hp:fpkg=[]
  ·have hp1:(fpkg == [])=true:=by rw[hp];rfl
   have HPk:=qK (show (decide (fpkg=[])||zY7 fpkg)=true from by rw[decide_eq_true hp];rfl);clear hp;apply zZ5 qF [isv _,isv _,isv _,isv _,isv _,isv _,isv _,isv _,isv _,isv _,isv _,isv _,(fun v W=>∃ q:Nat,v=.slice (some ⟨q,0,none⟩) 2 2∧Blk W q 4 #[.bool true,.bool (!zY2 ftail)])] w1.heap.size w1 qJ qH.drew qF qF qF qF qF (qC (qC (qC (qC (qC (qC (qC (qC (qC (qC (qC (qC (qA (fun _ _ _ ⟨q,e,h1⟩ hb=>⟨q,e,h1.keep hb⟩) trivial))))))))))))) ?steps (by rfl) _ rfl rfl ?fin;case steps=>exact qA (qS 3) (qA (qS 1) (qA (yK 1 9) (qA (qQ 2 10) (qA (qQ 3 11) (qA (qR 1 4 12) (qA (jU 4 12 5 13) (qA (qX 4 12 6 14) (qA (qV 4 12 7 15) (qA (qS 1) (qA (yL 9 17) (qA (jR 10 18) (qA (kQ 8 16 11 19) trivial))))))))))))
   case fin=>exact vQ
  ·have hp1:(fpkg == [])=false:=beq_eq_false_iff_ne.2 hp;have HPk:=qK (show (decide (fpkg=[])||zY7 fpkg)=zY7 fpkg from by rw[decide_eq_false hp];rfl);clear hp;apply zZ5 qF [isv _,isv _,isv _,isv _,isv _,isv _,isv _,isv _,isv _,isv _,isv _,isv _,(fun v W=>∃ q:Nat,v=.slice (some ⟨q,0,none⟩) 2 2∧Blk W q 4 #[.bool (zY7 fpkg),.bool (!zY2 ftail)])] w1.heap.size w1 qJ qH.drew qF qF qF qF qF (qC (qC (qC (qC (qC (qC (qC (qC (qC (qC (qC (qC (qA (fun _ _ _ ⟨q,e,h1⟩ hb=>⟨q,e,h1.keep hb⟩) trivial))))))))))))) ?steps (by rfl) _ rfl rfl ?fin;case steps=>
    refine qA (qS 3) (qA (qS 1) (qA (yK 1 9) (qA (qQ 2 10) (qA (qQ 3 11) (qA (qR 1 4 12) (qA (jU 4 12 5 13) (qA ?_ ?_)))))))
    ·intro AA W KK QQ hB hs hd hl hk;obtain⟨_,sl12,rfl⟩:=hd 4 12 qF rfl;obtain⟨_,sl14,rfl⟩:=hd 6 14 qF rfl;clear hs hd hl;refine⟨_,_,rfl,sl12,?_⟩;change Oper.wp _ _ _ _ _ _;go_simp;refine(zW1 fpkg W hO.out.pkg).mono ?_;rintro e W2 ⟨rfl,hb2⟩;exact hk _ _ rfl hb2
    exact qA (qV 4 12 7 15) (qA (qS 1) (qA (yL 9 17) (qA (jR 10 18) (qA (kQ 8 16 11 19) trivial))))
   case fin=>exact vQ
 clear e0 e1 e2 e3;have S1:=hcut;clear hcut S0 HBw;obtain⟨e0,e1,e2,e3⟩:=posC S1.hf;obtain⟨P0,hP0⟩:∃ P0,P0=((decide (fpkg=[])||zY7 fpkg)&& !zY2 ftail):=⟨_,rfl⟩;rw[←hP0] at S1;have HP0:=qK hP0;clear hP0;go_wp2;go_loopw [25] (fun i wr=>∃ k:Nat,k≤fimps.length∧i=.int .i64 (k:Nat)∧FileSt w (false|| !(P0&&(fimps.take k).all fun x=>zY7 x.name)) (false) #[.string ⟨fpkg.toArray⟩,.slice fAi fimps.length fci,.slice fAd fdecls.length fcd,.slice fAt ftail.length fct] wr) (fun i _=>fimps.length-(intOf i).toNat)
 case atStart=>exact⟨0,Nat.zero_le _,rfl,S1.cast (by simp)⟩
 case round=>
  obtain⟨k,hk,rfl,Sk⟩:=hrel;by_cases hlt':k < fimps.length
  ·have hlt2:(k:Int) < (fimps.length:Int):=by omega
   have HT:=qK (zJ0 (fun x:Imp=>zY7 x.name) fimps k hlt');have hn:=hO.out.names _ (List.getElem_mem hlt');obtain⟨b,off,hA,hbB,hc⟩:=(hO.out.imps.below Sk.low).1.at_ hlt';have hbW:b < wr.heap.size:=by have:=Sk.low.size;omega
   generalize fimps[k]=x at hc HT hn;obtain⟨xn,xp,xo⟩:=x;have HAd:=qK hA;subst hA;have c0:=hc 0 _ rfl;have c1:=hc 1 _ rfl;have c2:=hc 2 _ rfl;simp only[Nat.add_zero] at c0;simp only at hn;have HN:=qK hn;clear hc hn;go_upto_region 6 with fail
   have HB6:=qK (show Below wr.heap.size wr (wr.alloc (.cells #[.string ⟨xn.toArray⟩,.string ⟨xp.toArray⟩,.int .i64 xo] 60)) from qH.alloc qJ _);have S6:=Sk.below HB6.out;obtain⟨d0,d1,d2⟩:=impC (Blk.new wr 60 #[.string ⟨xn.toArray⟩,.string ⟨xp.toArray⟩,.int .i64 xo]);clear c0 c1 c2 HB6;generalize hw6:wr.alloc (.cells #[.string ⟨xn.toArray⟩,.string ⟨xp.toArray⟩,.int .i64 xo] 60)=w6 at S6 d0 d1 d2 ⊢;clear hw6;go_wp2_with fail
   refine(zW1 xn w6 HN.out).mono ?_;rintro e w7 ⟨rfl,hb7⟩;have S7:=S6.below hb7;clear hb7 d0 d1 d2;go_wp2_with fail
   refine(zR4 _ S7.hc).mono ?_;rintro e w8 ⟨rfl,hk8,hc8⟩;have S8:=((S7.below (qH.alloc qJ _)).step hk8 hc8).cast (Y:=false|| !(P0&&(fimps.take (k+1)).all fun x=>zY7 x.name)) (by rw[HT.out,Bool.and_assoc]);clear hk8 hc8;go_wp2;go_roundw
   case rel=>exact⟨k+1,by omega,by go_num,S8⟩
   case measure=>simp[intOf];omega
  ·obtain rfl:k=fimps.length:=by omega
   obtain⟨e0,e1,e2,e3⟩:=posC Sk.hf;have cD:=zC6 rx fAd fcd fdecls w w.heap.size hO.out.decls HDO.out (w.heap.size+1) false _ _ true 1 _ qG Sk.low Sk.hc Sk.hg (by decide) qG;rw[List.take_length] at cD;have CD:=qK cD;clear cD;go_wp2_with fail
   refine CD.out.mono ?_;rintro e w9 ⟨rfl,hk9,hc9⟩;have HK9:=qK ((Sk.hk.trans hk9).toBelow (B:=w.heap.size) qJ (fun i hi=>by omega));have cE:=xZ6 _ _ _ w9 hc9;have he:ckErr (false|| !(P0&&(fimps.all fun x=>zY7 x.name)&&okDs rx true (plDs fdecls))) (false||(plDs fdecls).any fun d=>fD d 1)=Z:=by
    rw[HZ.out,←HE.out,HP0.out];simp only[Bool.false_or]
   rw[he] at cE;clear hk9 hc9 he;go_wp2_with fail
   refine cE.mono ?_;rintro e w10 ⟨rfl,rfl⟩;go_wp2;go_ret;exact⟨rfl,HK9.out⟩
theorem xY3 (rx:Tx→Bool)(f:FA)(w:World)(hO:OkF w w.heap.size f)(hR:PatDs (RxOk rx) (plDs f.decls))(hG:Glob w)(hd:dpDs (plDs f.decls)≤1099511627000) :
  Calls Tryz.prog 63 #[.agg (encF f).toArray] w fun e w'=>e=.returned (.int .i64 (errF rx (plF f)))∧Below w.heap.size w w':=
 yO5 rx f.pkg f.Ai f.ci f.imps f.Ad f.cd f.decls f.At f.ct f.tail w hO hR hG hd
structure Us where
 file:Int
 pos:Int
 name:Tx
 kind:Int
 depth:Int
structure Bd where
 name:Tx
 expr:E
 file:Nat
 pos:Int
 path:List Nat
structure Sc where
 fields:List Tx
 lets:List Bd
def zH8 (l:List D):List Tx:=l.filterMap fun d=>if d.k=1∧zY7 d.l=true then some d.l else none
abbrev Fd:=Us × Option (Bd × List Sc)
def dupB:List Tx→Bool
 | []=>false
 | x ::r=>decide (x∈r)||dupB r
structure ScA where
 blk:Nat
 bF:Nat
 bL:Nat
 fields:List Tx
 lets:List (Tx × Nat)
structure Ob where
 blk:Nat
 d:DA
 sc:Nat
 file:Nat
 used:Bool
 act:Bool
 hgt:Int
 ex:EA
 done:Bool
def zU2:List (Tx × Nat)→Tx→Option Nat
 | [],_=>none
 | p ::r,s=>match zU2 r s with | some x=>some x | none=>if p.1=s then some p.2 else none
theorem zS9:∀ {l:List (Tx × Nat)}{s:Tx}{b:Nat},zU2 l s=some b→(s,b)∈l
 | p ::r,s,b,h=>by
   unfold zU2 at h;cases hr:zU2 r s with
   | some x=>
     rw[hr] at h;injection h with h
     subst h;exact List.mem_cons_of_mem _ (zS9 hr)
   | none=>
     rw[hr] at h;simp only at h;split at h
     ·rename_i e;injection h with h
      subst h e;exact List.mem_cons_self
     ·cases h
theorem zF5:∀ {l:List (Tx × Nat)}{s:Tx},zU2 l s=none↔∀ b,(s,b)∉l
 | [],s=>by simp[zU2]
 | p ::r,s=>by
   unfold zU2;cases hr:zU2 r s with
   | some x=>
     simp only[reduceCtorEq,false_iff];intro h;exact h x (List.mem_cons_of_mem _ (zS9 hr))
   | none=>
     have:=(zF5 (l:=r) (s:=s)).1 hr;simp only;split
     ·rename_i e;subst e;simp only[reduceCtorEq,false_iff];intro h;exact h p.2 (by simp)
     ·rename_i e;simp only[true_iff];intro b hb;rcases List.mem_cons.1 hb with hb | hb
      ·exact e (by rw[←hb])
      ·exact this b hb
theorem yO6 (l m:List (Tx × Nat))(s:Tx):zU2 (l++m) s=match zU2 m s with | some x=>some x | none=>zU2 l s:=by
 induction l with
 | nil=>simp[zU2];cases zU2 m s <;> rfl
 | cons p l ih=>
   have e:∀ q:List (Tx × Nat),zU2 (p ::q) s=match zU2 q s with | some x=>some x | none=>if p.1=s then some p.2 else none:=fun _=>rfl
   rw[List.cons_append,e,e,ih];cases zU2 m s <;> rfl
def zQ0 (s:Tx):List ScA→Int × Int × Option Nat
 | []=>(0,0,none)
 | x ::r=>match zU2 x.lets s with | some b=>(2,(r.length:Int),some b) | none=>if s∈x.fields then(1,(r.length:Int),none) else zQ0 s r
def zW4 (imps:List (List Tx))(env:List ScA)(lp:List Tx)(file:Nat)(s:Tx):Int × Int × Option Nat:=
 if s∈lp then(3,0,none)
 else if (zQ0 s env).1=0 then(if s∈imps.getD file [] then(4,0,none) else(0,0,none)) else zQ0 s env
structure RS where
 twice:Bool
 cyc:Bool
 all:List Nat
 objs:List Ob
 usedI:List (List Tx)
def zL2 (b:Nat)(o:Ob):Ob:=if o.blk=b then {o with used:=true} else o
def zV3 (file:Nat)(s:Tx)(x:Int × Int × Option Nat)(r:RS):RS:=
 match x.2.2 with
 | some b=>{r with objs:=r.objs.map (zL2 b)}
 | none=>if x.1=4 then {r with usedI:=r.usedI.set file (s ::r.usedI.getD file [])} else r
def zZ9 (l:List DA):List Tx:=zH8 (plDs l)
def yY1 (d:DA):Bool:=decide ((plD d).k=4)
def zZ7 (l:List DA):List DA:=l.filter yY1
def lblD (d:DA):Tx:=(plD d).l
def zC7 (blk sc file:Nat)(zE:EA)(d:DA):Ob:=⟨blk,d,sc,file,false,false,0,zE,false⟩
def zK5:EA:=.mk 0 [] 0 [] [] none 0 [] none 0 [] none 0 [] 0
open Go.Maps (Keyed)
def Rv (v:Value):Option (DataW Value × List MemPlace):=some (.held v,[])
structure KeyT (P:Program)(k:TypeId)(α:Type) where
 enc:α→Value
 ok:α→Prop
 lit:α→Lit
 keyed:Keyed P k
 key:∀ a,ok a→keyOf P k (enc a)=some (lit a)
 inv:∀ v l,keyOf P k v=some l→∃ a,ok a∧v=enc a
 encInj:∀ a b,enc a=enc b→a=b
section
variable {P:Program}{k t e:TypeId}{α:Type}{T:KeyT P k α}{w:World}{b n:Nat}{f:α→Option Value}
theorem KeyT.lit_inj {a a':α}(h:T.ok a)(h':T.ok a')(e:T.lit a=T.lit a'):a=a':=T.encInj _ _ (T.keyed.inj (T.key a h) (e▸T.key a' h'))
theorem KeyT.isKey {a:α}(h:T.ok a):WideAt.IsKeyLit (T.lit a):=T.keyed.key (T.key a h)
def Tells (T:KeyT P k α)(D:DataW Value)(f:α→Option Value):Prop:=
 ∀ a,T.ok a→(f a=none∧Maps.has D (T.lit a)=false)∨∃ v,f a=some v∧Maps.has D (T.lit a)=true∧∀ z,D.atKey (T.lit a) z=.held v
def OMap (T:KeyT P k α)(w:World)(b n:Nat)(f:α→Option Value):Prop:=∃ D:DataW Value,w.ownsMap P k Rv b n D∧Tells T D f
theorem OMap.made (T:KeyT P k α)(w:World):OMap T (w.alloc (.map #[] 0)) w.heap.size 0 (fun _=>none):=
 ⟨.map [],World.ownsMap_made _ _ _ _,fun _ _=>.inl ⟨rfl,rfl⟩⟩
theorem OMap.kept {w':World}{row:Option Nat}(h:OMap T w b n f)(hg:w.grownBy w' row)(hne:some b≠row):OMap T w' b n f:=by
 obtain⟨D,h1,h2⟩:=h;exact⟨D,h1.kept hg hne,h2⟩
theorem OMap.below {w':World}(h:OMap T w b n f)(hb:Below w.heap.size w w'):OMap T w' b n f:=by
 refine h.kept (row:=none) ⟨hb.os,hb.tape,hb.output,hb.size,fun k hk _=>hb.block k hk⟩ (by simp)
theorem OMap.alloc (h:OMap T w b n f)(o:Obj):OMap T (w.alloc o) b n f:=h.kept (World.grownBy_alloc w o none) (by simp)
theorem OMap.lt (h:OMap T w b n f):b < w.heap.size:=by obtain⟨D,h1,_⟩:=h;exact h1.lt
theorem OMap.congr {f':α→Option Value}(h:OMap T w b n f)(he:∀ a,T.ok a→f' a=f a):OMap T w b n f':=by
 obtain⟨D,h1,h2⟩:=h;refine⟨D,h1,fun a ha=>?_⟩;rw[he a ha];exact h2 a ha
theorem OMap.look (h:OMap T w b n f)(ht:P.underlying t=some (.map k e)){z:Value}(hz:(zeroValue e).run P w=.ok z w)(a:α)(ha:T.ok a) :
  (Instr.lookup t (.map (some b)) (T.enc a) false).run P w=.ok ((f a).getD z) w:=by
 obtain⟨D,h1,h2⟩:=h;obtain⟨v,ps,hrun,hv⟩:=h1.lookup T.keyed ht hz (zd:=.held z) (zp:=[]) rfl (T.key a ha);rw[hrun];rcases h2 a ha with ⟨h3,h4⟩ | ⟨u,h3,_,h4⟩
 ·rw[Maps.atKey_of_not_has h4] at hv;have:v=z:=by simp[Rv] at hv;exact hv.1
  rw[this,h3];rfl
 ·rw[h4] at hv;have:v=u:=by simp[Rv] at hv;exact hv.1
  rw[this,h3];rfl
theorem OMap.put [DecidableEq α] (h:OMap T w b n f)(ht:P.underlying t=some (.map k e))(hn:n < maxLen)(a:α)(ha:T.ok a)(v:Value) :
  ∃ w',(Instr.mapUpdate t (.map (some b)) (T.enc a) v).run P w=.ok () w'∧OMap T w' b (n+1) (fun x=>if x=a then some v else f x)∧w.grownBy w' (some b):=by
 obtain⟨D,h1,h2⟩:=h;obtain⟨w',hrun,h3,h4⟩:=h1.update T.keyed ht hn (T.key a ha) (val:=v) (d:=.held v) (ps:=[]) rfl;refine⟨w',hrun,⟨_,h3,fun x hx=>?_⟩,h4⟩;by_cases he:x=a
 ·subst he;exact .inr ⟨v,if_pos rfl,Maps.has_put_same h1.isMap (T.isKey hx) _,fun z=>Maps.atKey_put_same h1.isMap (T.isKey hx) _ _⟩
 ·have hne:T.lit x≠T.lit a:=fun e=>he (T.lit_inj hx ha e);show ((if x=a then some v else f x)=none∧_)∨_;simp only[if_neg he,Maps.has_put_other hne];rcases h2 x hx with h5 | ⟨u,h5,h6,h7⟩
  ·exact .inl h5
  ·exact .inr ⟨u,h5,h6,fun z=>(Maps.atKey_put_other hne _ _).trans (h7 z)⟩
def ORange (T:KeyT P k α)(w:World)(b r n:Nat)(f:α→Option Value)(S:α→Bool)(cnt:Nat):Prop:=
 ∃ (D:DataW Value) (left:Lit→Bool),w.ranges P k Rv b r n D left cnt∧Tells T D f∧∀ a,T.ok a→left (T.lit a)=S a
theorem ORange.kept {w':World}{row:Option Nat}{r cnt:Nat}{S:α→Bool}(h:ORange T w b r n f S cnt)(hg:w.grownBy w' row)(hb:some b≠row)(hr:some r≠row):ORange T w' b r n f S cnt:=by
 obtain⟨D,left,h1,h2⟩:=h;exact⟨D,left,h1.kept hg hb hr,h2⟩
theorem ORange.below {w':World}{r cnt:Nat}{S:α→Bool}(h:ORange T w b r n f S cnt)(hb:Below w.heap.size w w'):ORange T w' b r n f S cnt:=
 h.kept (row:=none) ⟨hb.os,hb.tape,hb.output,hb.size,fun k hk _=>hb.block k hk⟩ (by simp) (by simp)
theorem ORange.congr {r cnt:Nat}{S S':α→Bool}(h:ORange T w b r n f S cnt)(he:∀ a,S' a=S a):ORange T w b r n f S' cnt:=by
 obtain⟨D,left,h1,h2,h3⟩:=h;exact⟨D,left,h1,h2,fun a ha=>(h3 a ha).trans (he a).symm⟩
theorem ORange.left_eq {r cnt:Nat}{S:α→Bool}(h:ORange T w b r n f S cnt):w.rangeLeft b r=cnt:=by
 obtain⟨D,left,h1,_⟩:=h;exact h1.left_eq
theorem ORange.lt {r cnt:Nat}{S:α→Bool}(h:ORange T w b r n f S cnt):r < w.heap.size:=by
 obtain⟨D,left,h1,_⟩:=h;exact h1.lt
theorem OMap.range (h:OMap T w b n f)(ht:P.underlying t=some (.map k e)) :
  ∃ w' cnt,(Instr.range t (.map (some b))).run P w=.ok (.pointer (some ⟨w.heap.size,0,none⟩)) w'∧ORange T w' b w.heap.size n f (fun a=>(f a).isSome) cnt∧w.grownBy w' none∧w'.heap.size=w.heap.size+1∧cnt≤n:=by
 obtain⟨D,h1,h2⟩:=h;have hsz:=h1.size_le;obtain⟨w',hrun,h3,h4,h5⟩:=h1.range T.keyed ht;refine⟨w',_,hrun,⟨D,_,h3,h2,fun a ha=>?_⟩,h4,h5,hsz⟩;rcases h2 a ha with ⟨h6,h7⟩ | ⟨v,h6,h7,_⟩
 ·show _=(f a).isSome;rw[h7,h6];rfl
 ·show _=(f a).isSome;rw[h7,h6];rfl
theorem ORange.next [DecidableEq α] {r cnt:Nat}{S:α→Bool}(h:ORange T w b r n f S cnt)(ty:TypeId) :
  (cnt=0∧(∀ a,T.ok a→S a=false)∧(Instr.next (.pointer (some ⟨r,0,none⟩)) false ty).run P w=.ok (.tuple #[.bool false]) w)∨
  ∃ a v w' cnt',T.ok a∧S a=true∧f a=some v∧(Instr.next (.pointer (some ⟨r,0,none⟩)) false ty).run P w=.ok (.tuple #[.bool true,T.enc a,v]) w'∧
    ORange T w' b r n f (fun x=>S x&& !decide (x=a)) cnt'∧cnt' < cnt∧w.grownBy w' (some r)∧w'.heap.size=w.heap.size∧(Instr.entry (.pointer (some ⟨r,0,none⟩))).run P w'=.ok (.tuple #[T.enc a,v]) w':=by
 obtain⟨D,left,h1,h2,h3⟩:=h;rcases h1.next T.keyed ty with ⟨h4,h5,h6⟩ | ⟨key,v,kl,y,w',cnt',hk,hl,hv,hat,hrun,hrg,hlt,hgr,hsz,hen⟩
 ·exact .inl ⟨h4,fun a ha=>by rw[←h3 a ha];exact h5 _,h6⟩
 ·obtain⟨a,ha,rfl⟩:=T.inv _ _ hk;obtain rfl:T.lit a=kl:=by have:=T.key a ha;rw[hk] at this;exact(Option.some.inj this).symm
  have hy:y=(.held v,[]):=by simp[Rv] at hv;exact hv.symm
  subst hy;refine .inr ⟨a,v,w',cnt',ha,by rw[←h3 a ha];exact hl,?_,hrun,⟨D,_,hrg,h2,fun x hx=>?_⟩,hlt,hgr,hsz,hen⟩
  ·rcases h2 a ha with ⟨h7,h8⟩ | ⟨u,h7,_,h8⟩
   ·have h9:=hat (.lit (.bool false));rw[Maps.atKey_of_not_has h8] at h9;cases h9
   ·have h9:=hat (.lit (.bool false));rw[h8] at h9;injection h9 with h9
    rw[h7,h9]
  ·show (left (T.lit x)&& !(T.lit x).sameKey (T.lit a))=_;rw[h3 x hx];by_cases he:x=a
   ·subst he;show _=(S x&& !decide (x=x));rw[WideAt.sameKey_self (T.isKey hx),decide_eq_true rfl]
   ·show _=(S x&& !decide (x=a));rw[Maps.sameKey_ne (fun e=>he (T.lit_inj hx ha e)),decide_eq_false he]
end
section
variable {P:Program}{k t e:TypeId}{α:Type}{T:KeyT P k α}{w:World}{b n:Nat}{f:α→Option Value}{ops:Array Oper}{rest:List Oper}{o:Oper}{a:Act}{Q:Exit→Act→World→Prop}
end
open Go.Sort
def KS:KeyT Tryz.prog 9 (List UInt8) where
 enc:=fun s=>.string ⟨s.toArray⟩
 ok:=fun s=>s.length≤maxLen
 lit:=fun s=>.string s
 keyed:=Maps.string_keyed Tryz.underlying9
 key:=fun s h=>by
  have:=WideMaps.keyOf_string_mk (P:=Tryz.prog) Tryz.underlying9 (s:=⟨s.toArray⟩) (by simpa[ByteArray.size] using h);simpa using this
 inv:=fun v l h=>by
  unfold keyOf mapKey at h;simp only[Tryz.underlying9] at h;cases v with
  | string b=>
    simp only at h;split at h
    ·rename_i hb;exact⟨b.data.toList,by rw[Array.length_toList];exact hb,rfl⟩
    ·cases h
  | _=>cases h
 encInj:=fun a b h=>by simpa using h
theorem yT4 {H:Type}{P:Program}{k:TypeId}{R:Value→Option (DataW H × List MemPlace)}{w:World}{b n:Nat}{D:DataW H}(h:w.ownsMap P k R b n D):w.ownsMap P k R b (Maps.size D) D:=by
 obtain⟨es,clock,hb,F,_,rfl⟩:=h;refine⟨es,clock,hb,F,?_,rfl⟩;simp[Maps.size,DataW.length_sorted]
theorem zN3 {α:Type} [DecidableEq α]:∀ (l m:List α),l.Nodup→(∀ x∈l,x∈m)→l.length≤m.length
 | [],m,_,_=>Nat.zero_le _
 | x ::l,m,h,hs=>by
   have hx:x∈m:=hs x (by simp);have ih:=zN3 l (m.erase x) (List.nodup_cons.1 h).2 fun y hy=>by
    refine(List.mem_erase_of_ne ?_).2 (hs y (by simp[hy]));rintro rfl;exact(List.nodup_cons.1 h).1 hy
   rw[List.length_erase_of_mem hx] at ih;have:=List.length_pos_of_mem hx;simp only[List.length_cons];omega
theorem zE8 {D:DataW Value}{w:World}{b n:Nat}{f:List UInt8→Option Value}(hown:w.ownsMap Tryz.prog 9 Rv b n D)(ht:Tells KS D f) :
  (strKeys D).Nodup∧(∀ s∈strKeys D,s.length≤maxLen)∧(∀ s,s.length≤maxLen→(s∈strKeys D↔(f s).isSome=true))∧(strKeys D).length=Maps.size D:=by
 obtain⟨es,rfl,h1,h2⟩:=hown.entries KS.keyed;obtain⟨es',e,h3⟩:=hown.keysOf;injection e with e
 subst e;have hk:∀ p∈es,∃ x:List UInt8,p.1=.string x∧x.length≤maxLen:=fun p hp=>by
  obtain⟨v,hv⟩:=h3 p hp;obtain⟨x,_,h5,h6⟩:=Maps.keyOf_str Tryz.underlying9 hv;exact⟨x,h5,h6⟩
 refine⟨?_,?_,?_,?_⟩
 ·show (es.map fun p=>strOf p.1).Nodup;refine List.pairwise_map.2 (h1.imp_of_mem fun {p q} hp' hq' hne e=>hne ?_);obtain⟨a,ha,_⟩:=hk p hp';obtain⟨b,hb,_⟩:=hk q hq';rw[ha,hb] at e ⊢;exact congrArg _ e
 ·intro s hs;obtain⟨p,hp,rfl⟩:=List.mem_map.1 hs;obtain⟨x,h5,h6⟩:=hk p hp;rw[h5];exact h6
 ·intro s hs;have hh:s∈strKeys (.map es)↔Maps.has (.map es) (.string s)=true:=by
   rw[Maps.has_eq,List.any_eq_true];constructor
   ·intro h;obtain⟨p,hp,rfl⟩:=List.mem_map.1 h;obtain⟨x,h5,h6⟩:=hk p hp;exact⟨p,hp,by rw[h5];exact WideAt.sameKey_self (by exact True.intro)⟩
   ·rintro⟨p,hp,h⟩;have:=WideAt.sameKey_eq h;exact List.mem_map.2 ⟨p,hp,by rw[this];rfl⟩
  rw[hh];rcases ht s hs with ⟨h5,h6⟩ | ⟨v,h5,h6,_⟩
  ·have h6':Maps.has (.map es) (.string s)=false:=h6;rw[h6',h5];simp
  ·have h6':Maps.has (.map es) (.string s)=true:=h6;rw[h6',h5];simp
 ·show (es.map _).length=es.length;rw[List.length_map]
theorem OMap.tight {w:World}{b n:Nat}{f:List UInt8→Option Value}(h:OMap KS w b n f)(L:List (List UInt8))(hL:∀ s,(f s).isSome=true→s∈L):OMap KS w b L.length f:=by
 obtain⟨D,h1,h2⟩:=h;obtain⟨k1,k2,k3,k4⟩:=zE8 h1 h2;refine⟨D,(yT4 h1).mono ?_,h2⟩;rw[←k4];exact zN3 _ _ k1 fun s hs=>hL s ((k3 s (k2 s hs)).1 hs)
theorem OMap.keptK {w w':World}{M:Nat→Prop}{α:Type}{P:Program}{k:TypeId}{T:KeyT P k α}{b n:Nat}{f:α→Option Value}(h:OMap T w b n f)(hk:Kp M w w')(hM:¬ M b):OMap T w' b n f:=by
 obtain⟨D,⟨es,clock,hb,r⟩,h2⟩:=h;have hlt:b < w.heap.size:=by
  rcases Nat.lt_or_ge b w.heap.size with hlt | hge
  ·exact hlt
  ·rw[Array.getElem?_eq_none hge] at hb;cases hb
 exact⟨D,⟨es,clock,(hk.block b hlt hM).trans hb,r⟩,h2⟩
theorem OMap.far {w:World}{α:Type}{P:Program}{k:TypeId}{T:KeyT P k α}{b n:Nat}{f:α→Option Value}(h:OMap T w b n f){p:Addr}(hp:b≠p.block)(u:Value):OMap T (w.setCell p u) b n f:=by
 obtain⟨D,⟨es,clock,hb,r⟩,h2⟩:=h;exact⟨D,⟨es,clock,(Below.heap_setCell w p u b hp).trans hb,r⟩,h2⟩
theorem zY4 {α:Type}{P:Program}{k:TypeId}{T:KeyT P k α}{w:World}{b g q:Nat}{t:TypeId}{cs:Array Value}{f:α→Option Value}(h:Blk w g t cs)(hm:OMap T w b q f):g≠b:=by
 rintro rfl;obtain⟨D,⟨es,clock,hb,_⟩,_⟩:=hm;unfold Blk at h;rw[h] at hb;cases hb
end Go.Proofs.YtdgehhgjgifikaaGreatDoor
