/- What the claim needs of:TQ YG YH. -/
import Derived.Test.YtdgehhgjgifikaaGreatDoorK6
namespace Go.Proofs.YtdgehhgjgifikaaGreatDoor
open Go.RowKit
def SlN {α:Type}(w:World)(B k:Nat)(enc:α→List Value)(A:Option Addr)(l:List α):Prop:=Sl w B k enc A l∧l.length≤1099511627776
mutual
def OkA (w:World)(B:Nat):EA→Prop
 | .mk _ t _ a b As _ subs Ad _ decls At _ tail _=>(t.length≤maxLen∧a.length≤maxLen∧b.length≤maxLen)∧SlN w B 9 encE As subs∧OkAs w B subs∧SlN w B 11 encD Ad decls∧OkAds w B decls∧SlN w B 1 encS At tail
def OkAs (w:World)(B:Nat):List EA→Prop
 | []=>True
 | x ::l=>OkA w B x∧OkAs w B l
def OkAd (w:World)(B:Nat):DA→Prop
 | .mk _ _ l a b As _ subs Ab _ body At _ tail Al _ lead trail _=>(l.length≤maxLen∧a.length≤maxLen∧b.length≤maxLen∧trail.length≤maxLen)∧SlN w B 9 encE As subs∧OkAs w B subs∧SlN w B 11 encD Ab body∧OkAds w B body∧SlN w B 1 encS At tail∧SlN w B 1 encS Al lead
def OkAds (w:World)(B:Nat):List DA→Prop
 | []=>True
 | x ::l=>OkAd w B x∧OkAds w B l
end
theorem SlN.below {α:Type}{w w':World}{B k:Nat}{enc:α→List Value}{A:Option Addr}{l:List α}(h:SlN w B k enc A l)(hb:Below B w w'):SlN w' B k enc A l:=⟨h.1.below hb,h.2⟩
theorem zW2 {w w':World}{B:Nat}(hb:Below B w w'):(∀ e,OkA w B e→OkA w' B e)∧(∀ d,OkAd w B d→OkAd w' B d)∧(∀ l,OkAs w B l→OkAs w' B l)∧∀ l,OkAds w B l→OkAds w' B l:=
 zY9 (fun _ _ _ _ _ _ _ _ _ _ _ _ _ _ _ h1 h2 h=>⟨h.1,h.2.1.below hb,h1 h.2.2.1,h.2.2.2.1.below hb,h2 h.2.2.2.2.1,h.2.2.2.2.2.below hb⟩)
  (fun _ _ _ _ _ _ _ _ _ _ _ _ _ _ _ _ _ _ _ h1 h2 h=>⟨h.1,h.2.1.below hb,h1 h.2.2.1,h.2.2.2.1.below hb,h2 h.2.2.2.2.1,h.2.2.2.2.2.1.below hb,h.2.2.2.2.2.2.below hb⟩)
  (fun _=>trivial) (fun _ _ h1 h2 h=>⟨h1 h.1,h2 h.2⟩) (fun _=>trivial) (fun _ _ h1 h2 h=>⟨h1 h.1,h2 h.2⟩)
theorem OkAs.at_ {w:World}{B:Nat}:∀ {l:List EA}(_:OkAs w B l){e:EA}(_:e∈l),OkA w B e
 | _ ::_,h,_,he=>by
   rcases List.mem_cons.1 he with rfl | he
   ·exact h.1
   ·exact OkAs.at_ h.2 he
theorem OkAds.at_ {w:World}{B:Nat}:∀ {l:List DA}(_:OkAds w B l){d:DA}(_:d∈l),OkAd w B d
 | _ ::_,h,_,he=>by
   rcases List.mem_cons.1 he with rfl | he
   ·exact h.1
   ·exact OkAds.at_ h.2 he
mutual
def PatE (R:Tx→Prop):E→Prop
 | .mk _ _ _ _ _ subs decls _ _=>PatEs R subs∧PatDs R decls
def PatEs (R:Tx→Prop):List E→Prop
 | []=>True
 | x ::l=>PatE R x∧PatEs R l
def PatD (R:Tx→Prop):D→Prop
 | .mk k _ l _ _ subs body _ _ _ _=>(k=2→R l)∧PatEs R subs∧PatDs R body
def PatDs (R:Tx→Prop):List D→Prop
 | []=>True
 | x ::l=>PatD R x∧PatDs R l
end
theorem PatEs.at_ {R:Tx→Prop}:∀ {l:List E}(_:PatEs R l){e:E}(_:e∈l),PatE R e
 | _ ::_,h,_,he=>by
   rcases List.mem_cons.1 he with rfl | he
   ·exact h.1
   ·exact PatEs.at_ h.2 he
theorem PatDs.at_ {R:Tx→Prop}:∀ {l:List D}(_:PatDs R l){e:D}(_:e∈l),PatD R e
 | _ ::_,h,_,he=>by
   rcases List.mem_cons.1 he with rfl | he
   ·exact h.1
   ·exact PatDs.at_ h.2 he
def fE (e:E)(lv:Int):Bool:=decide (16 < lv+(dpE e:Int)-1)
def fD (d:D)(lv:Int):Bool:=decide (16 < lv+(dpD d:Int)-1)
theorem dpE_le {l:List E}{e:E}(h:e∈l):dpE e≤dpEs l:=by
 induction l with
 | nil=>cases h
 | cons x l ih=>
   unfold dpEs;rcases List.mem_cons.1 h with rfl | h
   ·omega
   ·have:=ih h;omega
theorem dpD_le {l:List D}{e:D}(h:e∈l):dpD e≤dpDs l:=by
 induction l with
 | nil=>cases h
 | cons x l ih=>
   unfold dpDs;rcases List.mem_cons.1 h with rfl | h
   ·omega
   ·have:=ih h;omega
theorem yK5 (lv:Int):∀ l:List E,(l.any fun e=>fE e lv)=decide (l≠[]∧16 < lv+(dpEs l:Int)-1)
 | []=>by simp
 | x ::l=>by
   rw[List.any_cons,yK5 lv l,Bool.eq_iff_iff];unfold fE;simp only[Bool.or_eq_true,decide_eq_true_eq,ne_eq,reduceCtorEq,not_false_eq_true,true_and];rw[dpEs];cases l with
   | nil=>simp[dpEs]
   | cons y l=>simp;omega
theorem yT3 (lv:Int):∀ l:List D,(l.any fun e=>fD e lv)=decide (l≠[]∧16 < lv+(dpDs l:Int)-1)
 | []=>by simp
 | x ::l=>by
   rw[List.any_cons,yT3 lv l,Bool.eq_iff_iff];unfold fD;simp only[Bool.or_eq_true,decide_eq_true_eq,ne_eq,reduceCtorEq,not_false_eq_true,true_and];rw[dpDs];cases l with
   | nil=>simp[dpDs]
   | cons y l=>simp;omega
theorem fE_mk (k:Int)(t:Tx)(n:Int)(a b:Tx)(subs:List E)(decls:List D)(tail:List Tx)(pos lv:Int):fE (.mk k t n a b subs decls tail pos) lv=(decide (16 < lv)||(subs.any fun e=>fE e (lv+1))||decls.any fun d=>fD d (lv+1)):=by
 rw[yK5,yT3,Bool.eq_iff_iff];unfold fE;rw[dpE];simp only[Bool.or_eq_true,decide_eq_true_eq,ne_eq];cases subs with
 | nil=>
   cases decls with
   | nil=>simp[dpEs,dpDs]
   | cons y l=>simp[dpEs];omega
 | cons x r=>
   cases decls with
   | nil=>simp[dpDs];omega
   | cons y l=>simp;omega
theorem fD_mk (k p:Int)(l a b:Tx)(subs:List E)(body:List D)(tail lead:List Tx)(trail:Tx)(pos lv:Int):fD (.mk k p l a b subs body tail lead trail pos) lv=(decide (16 < lv)||(subs.any fun e=>fE e (lv+1))||body.any fun d=>fD d (lv+1)):=by
 rw[yK5,yT3,Bool.eq_iff_iff];unfold fD;rw[dpD];simp only[Bool.or_eq_true,decide_eq_true_eq,ne_eq];cases subs with
 | nil=>
   cases body with
   | nil=>simp[dpEs,dpDs]
   | cons y l=>simp[dpEs];omega
 | cons x r=>
   cases body with
   | nil=>simp[dpDs];omega
   | cons y l=>simp;omega
def yX2 (rx:Tx→Bool)(w:World)(B:Nat)(d:DA):Prop:=∀ (g:Nat) (wr acc dp sc:Bool) (lv:Int) (W:World),B≤g→Below B w W→CkAt W g (wr|| !acc) dp→Glob W→0≤lv→lv+(dpD (plD d):Int)≤1099511627776→
 Calls Tryz.prog 140 #[.pointer (some ⟨g,0,none⟩),.agg (encD d).toArray,.bool sc,.int .i64 lv] W (zM9 g (wr|| !(acc&&okD rx sc (plD d))) (dp||fD (plD d) lv) W)
theorem yH2 (rx:Tx→Bool)(sc:Bool):∀ l:List D,okDs rx sc l=l.all (okD rx sc)
 | []=>by simp[okDs]
 | x ::l=>by rw[okDs,List.all_cons,yH2 rx sc l]
theorem zJ0 {α:Type}(p:α→Bool)(l:List α)(k:Nat)(h:k < l.length):(l.take (k+1)).all p=((l.take k).all p&&p l[k]):=by
 rw[List.take_succ_eq_append_getElem h,List.all_append];simp
theorem zO0 {α:Type}(p:α→Bool)(l:List α)(k:Nat)(h:k < l.length):(l.take (k+1)).any p=((l.take k).any p||p l[k]):=by
 rw[List.take_succ_eq_append_getElem h,List.any_append];simp
set_option maxRecDepth 100000 in
set_option maxHeartbeats 4000000 in
theorem zC6 (rx:Tx→Bool)(A:Option Addr)(c:Nat)(l:List DA)(w0:World)(B:Nat)(hS:SlN w0 B 11 encD A l)(hD:∀ d∈l,yX2 rx w0 B d)(g:Nat)(wb acc dp sc:Bool)(lv:Int)(w:World)(hg:B≤g)(hb:Below B w0 w)(hC:CkAt w g (wb|| !acc) dp)(hG:Glob w)(h0:0≤lv)(hlv:lv+(dpDs (plDs l):Int)≤1099511627776) :
  Calls Tryz.prog 98 #[.pointer (some ⟨g,0,none⟩),.slice A l.length c,.bool sc,.int .i64 lv] w (zM9 g (wb|| !(acc&&okDs rx sc (plDs l))) (dp||(plDs l).any fun d=>fD d lv) w):=by
 obtain⟨Z,hZ⟩:∃ Z,Z=(wb|| !(acc&&okDs rx sc (plDs l))):=⟨_,rfl⟩;obtain⟨Y,hY⟩:∃ Y,Y=(dp||(plDs l).any fun d=>fD d lv):=⟨_,rfl⟩;rw[←hZ,←hY];have HZ:=qK hZ;have HY:=qK hY;have HS:=qK hS;have HD:=qK hD;have HB:=qK hb;have HC:=qK hC;have HG:=qK hG;have HLV:=qK hlv;have hl:=hS.2;clear hZ hY hS hD hb hC hG hlv;go_enter Tryz.func98,Tryz.ntmps98
 go_wp2;go_loopw [12] (fun i wr'=>∃ k:Nat,k≤l.length∧i=.int .i64 (k:Nat)∧Hid (Kp (· = g) w wr')∧Hid (CkAt wr' g (wb|| !(acc&&(l.take k).all fun d=>okD rx sc (plD d))) (dp||(l.take k).any fun d=>fD (plD d) lv))) (fun i _=>l.length-(intOf i).toNat)
 case atStart=>exact⟨0,Nat.zero_le _,rfl,qK (Kp.refl _ _),qK (by simpa using HC.out)⟩
 case round=>
  obtain⟨k,hk,rfl,HK,HCk⟩:=hrel;by_cases hlt:k < l.length
  ·have hlt':(k:Int) < (l.length:Int):=by omega
   have HT:=qK (zJ0 (fun d=>okD rx sc (plD d)) l k hlt);have HU:=qK (zO0 (fun d=>fD (plD d) lv) l k hlt);have HM:=qK (List.getElem_mem hlt);have HBk:=qK (HB.out.trans (HK.out.toBelow (B:=B) (by have:=HC.out.lt;omega) (fun i hi=>by omega)));obtain⟨b,off,hA,hbB,hc⟩:=(HS.out.below HBk.out).1.at_ hlt;have hbW:b < wr.heap.size:=by have:=HCk.out.lt;omega
   generalize l[k]=d at hc HT HU HM;obtain⟨dk,dpr,dl,da,db,dAs,dcs,dsubs,dAb,dcb,dbody,dAt,dct,dtail,dAl,dcl,dlead,dtr,dpos⟩:=d;have c0:=hc 0 _ rfl;have c1:=hc 1 _ rfl;have c2:=hc 2 _ rfl;have c3:=hc 3 _ rfl;have c4:=hc 4 _ rfl;have c5:=hc 5 _ rfl;have c6:=hc 6 _ rfl;have c7:=hc 7 _ rfl;have c8:=hc 8 _ rfl;have c9:=hc 9 _ rfl;have c10:=hc 10 _ rfl;simp only[Nat.add_zero] at c0;have HAd:=qK hA;clear hc;subst hA;have HB1:=qK (show Below wr.heap.size wr (wr.alloc (.cells #[.int .i64 dk,.int .i64 dpr,.string ⟨dl.toArray⟩,.string ⟨da.toArray⟩,.string ⟨db.toArray⟩,.slice dAs dsubs.length dcs,.slice dAb dbody.length dcb,.slice dAt dtail.length dct,.slice dAl dlead.length dcl,.string ⟨dtr.toArray⟩,.int .i64 dpos] 71)) from qH.alloc qJ _);have cD:=HD.out _ HM.out g wb _ _ sc lv _ hg (HBk.out.trans (HB1.out.mono (by have:=HCk.out.lt;omega))) (HCk.out.keep HB1.out) ((HG.out.keepK HC.out HK.out).keep HB1.out) h0 (by
    have:=dpD_le (show plD (.mk dk dpr dl da db dAs dcs dsubs dAb dcb dbody dAt dct dtail dAl dcl dlead dtr dpos)∈plDs l from by rw[zX3];exact List.mem_map.2 ⟨_,HM.out,rfl⟩);have:=HLV.out;omega)
   unfold encD at cD;have CD:=qK cD;clear cD;go_wp2_with fail
   refine CD.out.mono ?_;rintro e w2 ⟨rfl,hk2,hc2⟩;have HK2:=qK ((HK.out.below HB1.out).trans hk2);have HC2:=qK (show CkAt w2 g (wb|| !(acc&&(l.take (k+1)).all fun d=>okD rx sc (plD d))) (dp||(l.take (k+1)).any fun d=>fD (plD d) lv) from by rw[HT.out,HU.out,←Bool.and_assoc,←Bool.or_assoc];exact hc2);clear hk2 hc2 CD;go_wp2;go_roundw
   case rel=>exact⟨k+1,by omega,by go_num,HK2,HC2⟩
   case measure=>simp[intOf];omega
  ·obtain rfl:k=l.length:=by omega
   go_wp2
   go_end0
   refine⟨rfl,HK.out,?_⟩;have h:=HCk.out;rw[List.take_length] at h;rw[HZ.out,HY.out,yH2,zX3,List.all_map,List.any_map];exact h
theorem OwnSt.castD {w wx:World}{g:Nat}{X dp Y:Bool}{E P:Array Value}{At:Option Addr}{tail:List Tx}(h:OwnSt w g X dp E P At tail wx)(e:dp=Y):OwnSt w g X Y E P At tail wx:=e▸h
def yO4 (rx:Tx→Bool)(w:World)(B:Nat)(e:EA):Prop:=∀ (g:Nat) (wb acc dp cj io il:Bool) (lv:Int) (W:World),B≤g→Below B w W→CkAt W g (wb|| !acc) dp→Glob W→0≤lv→lv+(dpE (plE e):Int)≤1099511627776→
 Calls Tryz.prog 172 #[.pointer (some ⟨g,0,none⟩),.agg (encE e).toArray,.agg #[.bool cj,.bool io,.bool il,.int .i64 lv]] W (zM9 g (wb|| !(acc&&okE rx (plE e) cj io il)) (dp||fE (plE e) lv) W)
theorem yH3 (rx:Tx→Bool)(cj mk li la:Bool):∀ (l:List E)(i:Nat),okEs rx cj mk li la l=(l.zipIdx i).all fun p=>okE rx p.1 cj mk (li&&(la||decide (p.2+1 < i+l.length)))
 | [],i=>by simp[okEs]
 | x ::l,i=>by
   rw[okEs,yH3 rx cj mk li la l (i+1),List.zipIdx_cons,List.all_cons];congr 1
   ·congr 2;cases l with
    | nil=>simp
    | cons y l=>simp
   ·congr 1;funext p;rw[show i+1+l.length=i+(x ::l).length by simp;omega]
theorem bits10:bits BinOp.and IntKind.i64 0 1=0:=by decide
theorem bits11:bits BinOp.and IntKind.i64 1 1=1:=by decide
theorem xY2 (m2:Nat)(tail:List Tx):((m2:Int)+(tail.length:Int)=0)↔(m2=0∧tail=[]):=by
 rw[←List.length_eq_zero_iff];omega
theorem ownQ_eq (k:Int)(t:Tx)(n:Int)(a b:Tx)(m m2:Nat)(tail:List Tx)(cj io il:Bool) :
  ownQ k t n a b m m2 tail cj io il=(yU0 k t n a b m m2 tail&& !(decide (k=18)&& !io)&& !(decide (k=15)&& !il)&& !(decide (k=13)&& !cj)&& !(decide (k=22)&&cj)):=by
 by_cases hr:1≤k∧k≤22
 rotate_left
 ·have h1:kOk k=false:=by
   unfold kOk;rw[Bool.and_eq_false_iff];simp only[decide_eq_false_iff_not];omega
  unfold ownQ yU0;rw[h1,decide_eq_false hr];simp
 ·have h1:kOk k=true:=by
   unfold kOk;rw[decide_eq_true hr.1,decide_eq_true hr.2];rfl
  unfold ownQ yU0 blkP;rw[h1,decide_eq_true hr];have hk:k=1∨k=2∨k=3∨k=4∨k=5∨k=6∨k=7∨k=8∨k=9∨k=10∨k=11∨k=12∨k=13∨k=14∨k=15∨k=16∨k=17∨k=18∨k=19∨k=20∨k=21∨k=22:=by omega
  have hl:=xY2 m2 tail;generalize zY2 tail=L;clear h1 hr;rcases hk with rfl | rfl | rfl | rfl | rfl | rfl | rfl | rfl | rfl | rfl | rfl | rfl | rfl | rfl | rfl | rfl | rfl | rfl | rfl | rfl | rfl | rfl
  all_goals
   rw[Bool.eq_iff_iff];simp[yU9,yT0,isS,numP,nmP,mkP,cjP,wordP,countP,xZ2,hl,and_assoc]
  all_goals
   clear hl;first
   | (constructor <;> intro h <;> simp_all <;> omega)
   | (intro hi
      constructor <;> intro h <;> simp_all)
   | (by_cases hn0:n=0
      ·subst hn0;rw[bits10];constructor <;> intro h <;> simp_all <;> omega
      ·by_cases hn1:n=1
       ·subst hn1;rw[bits11];constructor <;> intro h <;> simp_all <;> omega
       ·simp[hn0,hn1])
theorem okE_mk (rx:Tx→Bool)(k:Int)(t:Tx)(n:Int)(a b:Tx)(As:Option Addr)(cs:Nat)(subs:List EA)(Ad:Option Addr)(cd:Nat)(decls:List DA)(At:Option Addr)(ct:Nat)(tail:List Tx)(pos:Int)(cj io il:Bool) :
  okE rx (plE (.mk k t n a b As cs subs Ad cd decls At ct tail pos)) cj io il=(ownQ k t n a b subs.length decls.length tail cj io il&&(subs.zipIdx.all fun p:EA × Nat=>okE rx (plE p.1) (decide ((k=16∧cj=true)∨k=10)) (decide (k=17)) (decide (k=14)&&(decide (n=0)||decide (p.2+1 < subs.length))))&&okDs rx (decide (k=13)) (plDs decls)):=by
 rw[plE,okE,ownQ_eq,yH3 _ _ _ _ _ _ 0];have e1:(plEs subs).length=subs.length:=by rw[zX9,List.length_map]
 have e2:(plDs decls).length=decls.length:=by rw[zX3,List.length_map]
 rw[e1,e2,zX9,List.zipIdx_map,List.all_map];simp only[Nat.zero_add];rfl
theorem fE_pl (k:Int)(t:Tx)(n:Int)(a b:Tx)(As:Option Addr)(cs:Nat)(subs:List EA)(Ad:Option Addr)(cd:Nat)(decls:List DA)(At:Option Addr)(ct:Nat)(tail:List Tx)(pos lv:Int) :
  fE (plE (.mk k t n a b As cs subs Ad cd decls At ct tail pos)) lv=(decide (16 < lv)||(subs.any fun x=>fE (plE x) (lv+1))||(plDs decls).any fun d=>fD d (lv+1)):=by
 rw[plE,fE_mk,zX9,List.any_map];rfl
theorem yH4 {α:Type}(l:List α)(j:Nat)(h:j < l.length):l.zipIdx.take (j+1)=l.zipIdx.take j++ [(l[j],j)]:=by
 rw[List.take_succ_eq_append_getElem (by simpa using h)];simp
set_option maxRecDepth 100000 in
set_option maxHeartbeats 16000000 in
theorem expr_any (rx:Tx→Bool)(w0:World)(B:Nat)(k:Int)(t:Tx)(n:Int)(a b:Tx)(As:Option Addr)(cs:Nat)(subs:List EA)(Ad:Option Addr)(cd:Nat)(decls:List DA)(At:Option Addr)(ct:Nat)(tail:List Tx)(pos:Int)
  (hO:OkA w0 B (.mk k t n a b As cs subs Ad cd decls At ct tail pos))(hE:∀ x∈subs,yO4 rx w0 B x)(hD:∀ d∈decls,yX2 rx w0 B d):yO4 rx w0 B (.mk k t n a b As cs subs Ad cd decls At ct tail pos):=by
 intro g wb acc dp cj io il lv w hg hb hC hG h0 hlv;obtain⟨Z,hZ⟩:∃ Z,Z=(wb|| !(acc&&okE rx (plE (.mk k t n a b As cs subs Ad cd decls At ct tail pos)) cj io il)):=⟨_,rfl⟩;obtain⟨Y,hY⟩:∃ Y,Y=(dp||fE (plE (.mk k t n a b As cs subs Ad cd decls At ct tail pos)) lv):=⟨_,rfl⟩;rw[←hZ,←hY];unfold encE;rw[okE_mk] at hZ;rw[fE_pl] at hY;unfold OkA at hO;obtain⟨⟨ht,ha,hb'⟩,hSs,hOs,hSd,hOd,hSt⟩:=hO;rw[plE,dpE] at hlv;have hls:=hSs.2;have hld:=hSd.2;have HZ:=qK hZ;have HY:=qK hY;have HSs:=qK hSs;have HE:=qK hE;have HD:=qK hD;have HSd:=qK hSd;have HBb:=qK hb;have HDp1:=qK (show lv+1+(dpEs (plEs subs):Int)≤1099511627776 from by omega);have HDp2:=qK (show lv+1+(dpDs (plDs decls):Int)≤1099511627776 from by omega);have hlv2:lv≤1099511627776:=by omega
 have HT':=qK ht;have HA':=qK ha;have HB':=qK hb';have HGb:=qK hC.lt;have htl:=hSt.2;have hSw:=(hSt.1.below hb);have HN:=qK (yT2 hSw hg);have S0:OwnSt w g (wb|| !acc) (dp) #[.int .i64 k,.string ⟨t.toArray⟩,.int .i64 n,.string ⟨a.toArray⟩,.string ⟨b.toArray⟩,.slice As subs.length cs,.slice Ad decls.length cd,.slice At tail.length ct,.int .i64 pos] #[.bool cj,.bool io,.bool il,.int .i64 lv] At tail ((w.alloc (.cells #[.int .i64 k,.string ⟨t.toArray⟩,.int .i64 n,.string ⟨a.toArray⟩,.string ⟨b.toArray⟩,.slice As subs.length cs,.slice Ad decls.length cd,.slice At tail.length ct,.int .i64 pos] 67)).alloc (.cells #[.bool cj,.bool io,.bool il,.int .i64 lv] 241)):=by
  have hb2:Below w.heap.size w ((w.alloc (.cells #[.int .i64 k,.string ⟨t.toArray⟩,.int .i64 n,.string ⟨a.toArray⟩,.string ⟨b.toArray⟩,.slice As subs.length cs,.slice Ad decls.length cd,.slice At tail.length ct,.int .i64 pos] 67)).alloc (.cells #[.bool cj,.bool io,.bool il,.int .i64 lv] 241)):=(qH.alloc qJ _).alloc (by simp) _;refine⟨Kp.ofBelow hb2 _,hC.keep hb2,(Blk.new w _ _).alloc _,?_,(hSw.more (by have:=hC.lt;omega)).below hb2,hG.keep hb2⟩;have:=Blk.new (w.alloc (.cells #[.int .i64 k,.string ⟨t.toArray⟩,.int .i64 n,.string ⟨a.toArray⟩,.string ⟨b.toArray⟩,.slice As subs.length cs,.slice Ad decls.length cd,.slice At tail.length ct,.int .i64 pos] 67)) 241 #[.bool cj,.bool io,.bool il,.int .i64 lv];rw[World.size_alloc] at this;exact this
 clear hZ hY hSs hOs hSd hOd hSt hE hD hb hC hG hlv ht ha hb' hSw;go_enter Tryz.func172,Tryz.ntmps172
 go_upto_region 1 with fail
 generalize (w.alloc (.cells #[.int .i64 k,.string ⟨t.toArray⟩,.int .i64 n,.string ⟨a.toArray⟩,.string ⟨b.toArray⟩,.slice As subs.length cs,.slice Ad decls.length cd,.slice At tail.length ct,.int .i64 pos] 67)).alloc (.cells #[.bool cj,.bool io,.bool il,.int .i64 lv] 241)=w1 at S0 ⊢;obtain⟨e0,e1,e2,e3,e4,e5,e6,e7,e8⟩:=zZ6 S0.he;obtain⟨p0,p1,p2,p3⟩:=posC S0.hp;have k1:w1.frozen? ⟨g,1,none⟩=false:=S0.hc.free 1;have k2:=S0.hc.c1;go_upto_if 10 with fail
 generalize hb16:decide ((16:Int) < lv)=b16;have H16:=qK hb16;clear hb16;go_cut [] from 11 to 13 (fun wx=>OwnSt w g (wb|| !acc) (dp||decide (16 < lv)) #[.int .i64 k,.string ⟨t.toArray⟩,.int .i64 n,.string ⟨a.toArray⟩,.string ⟨b.toArray⟩,.slice As subs.length cs,.slice Ad decls.length cd,.slice At tail.length ct,.int .i64 pos] #[.bool cj,.bool io,.bool il,.int .i64 lv] At tail wx)
 case first=>
  cases b16
  ·go_wp2_with fail
   go_meet
   case rel=>exact S0.castD (by rw[H16.out];simp)
  ·go_wp2_with fail
   go_meet
   case rel=>exact(S0.step HN.out (S0.hc.set1 true).1 (S0.hc.set1 true).2).castD (by rw[H16.out];simp)
 clear e0 e1 e2 e3 e4 e5 e6 e7 e8 p0 p1 p2 p3;have S1:=hcut;clear hcut S0 k1 k2;obtain⟨e0,e1,e2,e3,e4,e5,e6,e7,e8⟩:=zZ6 S1.he;obtain⟨p0,p1,p2,p3⟩:=posC S1.hp;go_wp2_with fail
 refine(own_any g wb acc _ k t n a b As subs.length cs Ad decls.length cd At tail ct pos cj io il lv _ S1.hc S1.hg (S1.hs.more S1.hk.size) HN.out HT'.out HA'.out HB'.out htl hld).mono ?_;rintro e w2 ⟨rfl,hk,hc⟩;have S2:=S1.step HN.out hk hc;clear e0 e1 e2 e3 e4 e5 e6 e7 e8 p0 p1 p2 p3;clear hk hc S1;obtain⟨e0,e1,e2,e3,e4,e5,e6,e7,e8⟩:=zZ6 S2.he;obtain⟨p0,p1,p2,p3⟩:=posC S2.hp;obtain⟨EL,hEL⟩:∃ EL:EA × Nat→Bool,EL=fun p:EA × Nat=>okE rx (plE p.1) (decide ((k=16∧cj=true)∨k=10)) (decide (k=17)) (decide (k=14)&&(decide (n=0)||decide (p.2+1 < subs.length))):=⟨_,rfl⟩;have HEL:=qK (fun p=>congrFun hEL p);have HZ2:=qK (show Z=(wb|| !(acc&&(ownQ k t n a b subs.length decls.length tail cj io il&&subs.zipIdx.all EL&&okDs rx (decide (k=13)) (plDs decls)))) from by rw[HZ.out,hEL]);clear hEL HZ;generalize ownQ k t n a b subs.length decls.length tail cj io il=OW at HZ2 S2;go_wp2;go_loopw [21] (fun i wr'=>∃ j:Nat,j≤subs.length∧i=.int .i64 (j:Nat)∧OwnSt w g (wb|| !(acc&&OW&&(subs.zipIdx.take j).all EL)) (dp||decide (16 < lv)||(subs.take j).any fun x=>fE (plE x) (lv+1)) #[.int .i64 k,.string ⟨t.toArray⟩,.int .i64 n,.string ⟨a.toArray⟩,.string ⟨b.toArray⟩,.slice As subs.length cs,.slice Ad decls.length cd,.slice At tail.length ct,.int .i64 pos] #[.bool cj,.bool io,.bool il,.int .i64 lv] At tail wr') (fun i _=>subs.length-(intOf i).toNat)
 case atStart=>exact⟨0,Nat.zero_le _,rfl,(S2.cast (by simp)).castD (by simp)⟩
 case round=>
  obtain⟨j,hj,rfl,Sj⟩:=hrel;clear e0 e1 e2 e3 e4 e5 e6 e7 e8 p0 p1 p2 p3;obtain⟨e0,e1,e2,e3,e4,e5,e6,e7,e8⟩:=zZ6 Sj.he;obtain⟨p0,p1,p2,p3⟩:=posC Sj.hp;by_cases hlt:j < subs.length
  ·have hlt':(j:Int) < (subs.length:Int):=by omega
   have HT:=qK (show (subs.zipIdx.take (j+1)).all EL=((subs.zipIdx.take j).all EL&&EL (subs[j],j)) from by rw[yH4 _ _ hlt,List.all_append];simp);have HU:=qK (zO0 (fun x=>fE (plE x) (lv+1)) subs j hlt);have HM:=qK (List.getElem_mem hlt);have HBk:=qK (HBb.out.trans (Sj.hk.toBelow (B:=B) (by have:=HGb.out;omega) (fun i hi=>by omega)));obtain⟨bb,off,hA,hbB,hc⟩:=(HSs.out.below HBk.out).1.at_ hlt;have hbW:bb < wr.heap.size:=by have:=Sj.hc.lt;omega
   generalize subs[j]=x at hc HT HU HM;obtain⟨xk,xt,xn,xa,xb,xAs,xcs,xsubs,xAd,xcd,xdecls,xAt,xct,xtail,xpos⟩:=x;have c0:=hc 0 _ rfl;have c1:=hc 1 _ rfl;have c2:=hc 2 _ rfl;have c3:=hc 3 _ rfl;have c4:=hc 4 _ rfl;have c5:=hc 5 _ rfl;have c6:=hc 6 _ rfl;have c7:=hc 7 _ rfl;have c8:=hc 8 _ rfl;simp only[Nat.add_zero] at c0;have HAd:=qK hA;clear hc;subst hA;have HB1:=qK (show Below wr.heap.size wr (wr.alloc (.cells #[.int .i64 xk,.string ⟨xt.toArray⟩,.int .i64 xn,.string ⟨xa.toArray⟩,.string ⟨xb.toArray⟩,.slice xAs xsubs.length xcs,.slice xAd xdecls.length xcd,.slice xAt xtail.length xct,.int .i64 xpos] 67)) from qH.alloc qJ _);have cX:=fun cj' io' il'=>HE.out _ HM.out g wb _ _ cj' io' il' (lv+1) _ hg (HBk.out.trans (HB1.out.mono (by have:=Sj.hc.lt;omega))) (Sj.hc.keep HB1.out) (Sj.hg.keep HB1.out) qG (by
    have:=dpE_le (show plE (.mk xk xt xn xa xb xAs xcs xsubs xAd xcd xdecls xAt xct xtail xpos)∈plEs subs from by rw[zX9];exact List.mem_map.2 ⟨_,HM.out,rfl⟩);have:=HDp1.out;omega)
   unfold encE at cX;have CX:=qK cX;clear cX;have hi1:IntKind.i64.wrap ((j:Int)+1)=(j:Int)+1:=by rw[IntKind.wrap_i64];omega
   have hl1:IntKind.i64.wrap (lv+1)=lv+1:=by rw[IntKind.wrap_i64];omega
   obtain⟨d0,d1,d2,d3,d4,d5,d6,d7,d8⟩:=zZ6 (Sj.below HB1.out).he;obtain⟨q0,q1,q2,q3⟩:=posC (Sj.below HB1.out).hp;cases h16:((k:Int) == 16)
   ·cases h10:((k:Int) == 10)
    ·cases h14:((k:Int) == 14)
     ·go_wp2_with fail
      refine(CX.out _ _ _).mono ?_;rintro e w2 ⟨rfl,hk2,hc2⟩;have S2:=(Sj.below HB1.out).step HN.out hk2 hc2;have HS3:=qK ((S2.cast (Y:=wb|| !(acc&&OW&&(subs.zipIdx.take (j+1)).all EL)) (by rw[HT.out,←Bool.and_assoc,HEL.out];simp only[beq_eq_false_iff_ne,ne_eq] at h16 h14 h10;have hkd:∀ c:Int,(k == c)=decide (k=c):=fun _=>rfl;have hjd:decide ((j:Int)+1 < (subs.length:Int))=decide (j+1 < subs.length):=decide_eq_decide.2 qG;simp only[hkd];clear hkd hjd;first | (simp[*];done) | (simp_all;done))).castD (Y:=dp||decide (16 < lv)||(subs.take (j+1)).any fun x=>fE (plE x) (lv+1)) (by rw[HU.out,←Bool.or_assoc]));clear hk2 hc2 S2;go_wp2;go_roundw
      case rel=>exact⟨j+1,by omega,by go_num,HS3.out⟩
      case measure=>simp[intOf];omega
     ·cases hn0:((n:Int) == 0)
      ·go_wp2_with fail
       refine(CX.out _ _ _).mono ?_;rintro e w2 ⟨rfl,hk2,hc2⟩;have S2:=(Sj.below HB1.out).step HN.out hk2 hc2;have HS3:=qK ((S2.cast (Y:=wb|| !(acc&&OW&&(subs.zipIdx.take (j+1)).all EL)) (by rw[HT.out,←Bool.and_assoc,HEL.out];simp only[beq_iff_eq,beq_eq_false_iff_ne,ne_eq] at h16 h14 h10 hn0;have hkd:∀ c:Int,(k == c)=decide (k=c):=fun _=>rfl;have hjd:decide ((j:Int)+1 < (subs.length:Int))=decide (j+1 < subs.length):=decide_eq_decide.2 qG;simp only[hkd,hjd];clear hkd hjd;first | (simp[*];done) | (simp_all;done))).castD (Y:=dp||decide (16 < lv)||(subs.take (j+1)).any fun x=>fE (plE x) (lv+1)) (by rw[HU.out,←Bool.or_assoc]));clear hk2 hc2 S2;go_wp2;go_roundw
       case rel=>exact⟨j+1,by omega,by go_num,HS3.out⟩
       case measure=>simp[intOf];omega
      ·go_wp2_with fail
       refine(CX.out _ _ _).mono ?_;rintro e w2 ⟨rfl,hk2,hc2⟩;have S2:=(Sj.below HB1.out).step HN.out hk2 hc2;have HS3:=qK ((S2.cast (Y:=wb|| !(acc&&OW&&(subs.zipIdx.take (j+1)).all EL)) (by rw[HT.out,←Bool.and_assoc,HEL.out];simp only[beq_iff_eq,beq_eq_false_iff_ne,ne_eq] at h16 h14 h10 hn0;have hkd:∀ c:Int,(k == c)=decide (k=c):=fun _=>rfl;have hjd:decide ((j:Int)+1 < (subs.length:Int))=decide (j+1 < subs.length):=decide_eq_decide.2 qG;simp only[hkd];clear hkd hjd;first | (simp[*];done) | (simp_all;done))).castD (Y:=dp||decide (16 < lv)||(subs.take (j+1)).any fun x=>fE (plE x) (lv+1)) (by rw[HU.out,←Bool.or_assoc]));clear hk2 hc2 S2;go_wp2;go_roundw
       case rel=>exact⟨j+1,by omega,by go_num,HS3.out⟩
       case measure=>simp[intOf];omega
    ·cases h14:((k:Int) == 14)
     ·go_wp2_with fail
      refine(CX.out _ _ _).mono ?_;rintro e w2 ⟨rfl,hk2,hc2⟩;have S2:=(Sj.below HB1.out).step HN.out hk2 hc2;have HS3:=qK ((S2.cast (Y:=wb|| !(acc&&OW&&(subs.zipIdx.take (j+1)).all EL)) (by rw[HT.out,←Bool.and_assoc,HEL.out];simp only[beq_iff_eq,beq_eq_false_iff_ne,ne_eq] at h16 h14 h10;have hkd:∀ c:Int,(k == c)=decide (k=c):=fun _=>rfl;have hjd:decide ((j:Int)+1 < (subs.length:Int))=decide (j+1 < subs.length):=decide_eq_decide.2 qG;simp only[hkd];clear hkd hjd;first | (simp[*];done) | (simp_all;done))).castD (Y:=dp||decide (16 < lv)||(subs.take (j+1)).any fun x=>fE (plE x) (lv+1)) (by rw[HU.out,←Bool.or_assoc]));clear hk2 hc2 S2;go_wp2;go_roundw
      case rel=>exact⟨j+1,by omega,by go_num,HS3.out⟩
      case measure=>simp[intOf];omega
     ·exact absurd ((beq_iff_eq.1 h10).symm.trans (beq_iff_eq.1 h14)) (by decide)
   ·cases h14:((k:Int) == 14)
    ·cases cj;all_goals
      go_wp2_with fail
      refine(CX.out _ _ _).mono ?_;rintro e w2 ⟨rfl,hk2,hc2⟩;have S2:=(Sj.below HB1.out).step HN.out hk2 hc2;have HS3:=qK ((S2.cast (Y:=wb|| !(acc&&OW&&(subs.zipIdx.take (j+1)).all EL)) (by rw[HT.out,←Bool.and_assoc,HEL.out];simp only[beq_iff_eq,beq_eq_false_iff_ne,ne_eq] at h16 h14;have hkd:∀ c:Int,(k == c)=decide (k=c):=fun _=>rfl;have hjd:decide ((j:Int)+1 < (subs.length:Int))=decide (j+1 < subs.length):=decide_eq_decide.2 qG;simp only[hkd];clear hkd hjd;first | (simp[*];done) | (simp_all;done))).castD (Y:=dp||decide (16 < lv)||(subs.take (j+1)).any fun x=>fE (plE x) (lv+1)) (by rw[HU.out,←Bool.or_assoc]));clear hk2 hc2 S2;go_wp2;go_roundw
      case rel=>exact⟨j+1,by omega,by go_num,HS3.out⟩
      case measure=>simp[intOf];omega
    ·exact absurd ((beq_iff_eq.1 h16).symm.trans (beq_iff_eq.1 h14)) (by decide)
  ·obtain rfl:j=subs.length:=by omega
   have HBk:=qK (HBb.out.trans (Sj.hk.toBelow (B:=B) (by have:=HGb.out;omega) (fun i hi=>by omega)));have hl1:IntKind.i64.wrap (lv+1)=lv+1:=by rw[IntKind.wrap_i64];omega
   have cD:=zC6 rx Ad cd decls w0 B HSd.out HD.out g wb _ _ (decide (k=13)) (lv+1) _ hg HBk.out Sj.hc Sj.hg qG HDp2.out;have h13:((k:Int) == 13)=decide (k=13):=rfl;have CD:=qK cD;clear cD h13;go_wp2_with fail
   refine CD.out.mono ?_;rintro e w3 ⟨rfl,hk3,hc3⟩;have HK3:=qK (Sj.hk.trans hk3);have HC3:=qK hc3;clear hk3 hc3;go_wp2
   go_end0
   refine⟨rfl,HK3.out,?_⟩;have h:=HC3.out;rw[List.take_of_length_le (by simp),List.take_length] at h;rw[HZ2.out,HY.out];simp only[Bool.and_assoc,Bool.or_assoc] at h ⊢;exact h
end Go.Proofs.YtdgehhgjgifikaaGreatDoor
