/- What the claim needs of:ZV ZW. -/
import Derived.Test.YtdgehhgjgifikaaGreatDoorN33
import Derived.Laws.EntriesVeiled
import Derived.Test.YtdgehhgjgifikaaGreatDoorN30
namespace Go.Proofs.YtdgehhgjgifikaaGreatDoor
open Go.RowKit
theorem obC2 {w:World}{b:Nat}{o:Ob}(h:Blk w b 102 (obV o)):w.cell? ⟨b,11,none⟩=some (.pointer (some ⟨o.sc,0,none⟩))∧w.cell? ⟨b,12,none⟩=some (.int .i64 (o.file:Nat))∧w.cell? ⟨b,14,none⟩=some (.bool o.act)∧w.cell? ⟨b,25,none⟩=some (.bool o.done)∧w.frozen? ⟨b,14,none⟩=false∧w.frozen? ⟨b,15,none⟩=false∧w.frozen? ⟨b,25,none⟩=false:=by
 obtain⟨bb,d,sc,file,used,act,hgt,ex,done⟩:=o
 cases d
 cases ex
 exact⟨h.cell 11,h.cell 12,h.cell 14,h.cell 25,h.free 14,h.free 15,h.free 25⟩
theorem obEx {w:World}{b:Nat}{o:Ob}{xk:Int}{xt:Tx}{xm:Int}{xa xb:Tx}{xAs:Option Addr}{xcs:Nat}{xsubs:List EA}{xAd:Option Addr}{xcd:Nat}{xdecls:List DA}{xAt:Option Addr}{xct:Nat}{xtail:List Tx}{xpos:Int}(h:Blk w b 102 (obV o))(he:o.ex=.mk xk xt xm xa xb xAs xcs xsubs xAd xcd xdecls xAt xct xtail xpos) :
  w.cell? ⟨b,16,none⟩=some (.int .i64 xk)∧w.cell? ⟨b,17,none⟩=some (.string ⟨xt.toArray⟩)∧w.cell? ⟨b,18,none⟩=some (.int .i64 xm)∧w.cell? ⟨b,19,none⟩=some (.string ⟨xa.toArray⟩)∧w.cell? ⟨b,20,none⟩=some (.string ⟨xb.toArray⟩)∧w.cell? ⟨b,21,none⟩=some (.slice xAs xsubs.length xcs)∧w.cell? ⟨b,22,none⟩=some (.slice xAd xdecls.length xcd)∧w.cell? ⟨b,23,none⟩=some (.slice xAt xtail.length xct)∧w.cell? ⟨b,24,none⟩=some (.int .i64 xpos):=by
 obtain⟨bb,d,sc,file,used,act,hgt,ex,done⟩:=o
 dsimp only at he
 subst he
 cases d
 exact⟨h.cell 16,h.cell 17,h.cell 18,h.cell 19,h.cell 20,h.cell 21,h.cell 22,h.cell 23,h.cell 24⟩
theorem obV_act (o:Ob):(obV o).setIfInBounds 14 (.bool true)=obV (actO o):=by
 obtain⟨bb,d,sc,file,used,act,hgt,ex,done⟩:=o
 cases d
 cases ex
 simp[obV,encD,encE,actO]
theorem obSub {Im:Nat→Prop}{w:World}{b:Nat}{o:Ob}{e0:EA}(h:Blk w b 102 (obV o))(he:zU6 o.d=[e0])(hO:OkId Im w o.d):∃ As cs,w.cell? ⟨b,5,none⟩=some (.slice As 1 cs)∧SlI Im w 9 encE As [e0]∧OkI Im w e0:=by
 obtain⟨bb,d,sc,file,used,act,hgt,ex,done⟩:=o
 cases d with
 | mk k p l a b' As cs subs Ab cb body At ct tail Al cl lead tr pos=>
   cases ex
   dsimp only[zU6] at he
   subst he
   exact⟨As,cs,h.cell 5,hO.2.1,hO.2.2.1.1⟩
theorem wOb_sub {o:Ob}{e0:EA}(ha:o.act=false)(hd:o.done=false)(he:zU6 o.d=[e0]):wOb o=1+wE e0:=by
 unfold wOb
 rw[ha,hd,he]
 simp[wEs]
theorem hE_sub {d:DA}{e0:EA}(he:zU6 d=[e0]):hE e0+1≤hD d:=by
 cases d with
 | mk k p l a b' As cs subs Ab cb body At ct tail Al cl lead tr pos=>
   dsimp only[zU6] at he
   subst he
   rw[hD,hEs,hEs]
   omega
theorem obFr {w:World}{b:Nat}{o:Ob}(h:Blk w b 102 (obV o)):w.frozen? ⟨b,16,none⟩=false∧w.frozen? ⟨b,17,none⟩=false∧w.frozen? ⟨b,18,none⟩=false∧w.frozen? ⟨b,19,none⟩=false∧w.frozen? ⟨b,20,none⟩=false∧w.frozen? ⟨b,21,none⟩=false∧w.frozen? ⟨b,22,none⟩=false∧w.frozen? ⟨b,23,none⟩=false∧w.frozen? ⟨b,24,none⟩=false:=
 ⟨h.free 16,h.free 17,h.free 18,h.free 19,h.free 20,h.free 21,h.free 22,h.free 23,h.free 24⟩
theorem obH {w:World}{b:Nat}{o:Ob}(h:Blk w b 102 (obV o)):w.cell? ⟨b,15,none⟩=some (.int .i64 o.hgt):=by
 obtain⟨bb,d,sc,file,used,act,hgt,ex,done⟩:=o
 cases d
 cases ex
 exact h.cell 15
def exO (e:EA)(o:Ob):Ob:={o with ex:=e}
theorem obV_ex (o:Ob){xk:Int}{xt:Tx}{xm:Int}{xa xb:Tx}{xAs:Option Addr}{xcs:Nat}{xsubs:List EA}{xAd:Option Addr}{xcd:Nat}{xdecls:List DA}{xAt:Option Addr}{xct:Nat}{xtail:List Tx}{xpos:Int}:(((((((((obV o).setIfInBounds 16 (.int .i64 xk)).setIfInBounds 17 (.string ⟨xt.toArray⟩)).setIfInBounds 18 (.int .i64 xm)).setIfInBounds 19 (.string ⟨xa.toArray⟩)).setIfInBounds 20 (.string ⟨xb.toArray⟩)).setIfInBounds 21 (.slice xAs xsubs.length xcs)).setIfInBounds 22 (.slice xAd xdecls.length xcd)).setIfInBounds 23 (.slice xAt xtail.length xct)).setIfInBounds 24 (.int .i64 xpos)=obV (exO (.mk xk xt xm xa xb xAs xcs xsubs xAd xcd xdecls xAt xct xtail xpos) o):=by
 obtain⟨bb,d,sc,file,used,act,hgt,ex,done⟩:=o
 cases d
 cases ex
 simp[obV,encD,encE,exO]
theorem obV_done (e:EA)(o:Ob):(((obV (exO e o)).setIfInBounds 15 (.int .i64 (htE 17 (plE e):Nat))).setIfInBounds 14 (.bool false)).setIfInBounds 25 (.bool true)=obV (zR3 e o):=by
 obtain⟨bb,d,sc,file,used,act,hgt,ex,done⟩:=o
 cases d
 cases e
 simp[obV,encD,encE,exO,zR3]
theorem xW4 {w:World}{b:Nat}{o:Ob}{xk:Int}{xt:Tx}{xm:Int}{xa xb:Tx}{xAs:Option Addr}{xcs:Nat}{xsubs:List EA}{xAd:Option Addr}{xcd:Nat}{xdecls:List DA}{xAt:Option Addr}{xct:Nat}{xtail:List Tx}{xpos:Int}(h:Blk w b 102 (obV o)) :
  Blk ((((((((((w.setCell ⟨b,16,none⟩ (.int .i64 xk)).setCell ⟨b,17,none⟩ (.string ⟨xt.toArray⟩)).setCell ⟨b,18,none⟩ (.int .i64 xm)).setCell ⟨b,19,none⟩ (.string ⟨xa.toArray⟩)).setCell ⟨b,20,none⟩ (.string ⟨xb.toArray⟩)).setCell ⟨b,21,none⟩ (.slice xAs xsubs.length xcs)).setCell ⟨b,22,none⟩ (.slice xAd xdecls.length xcd)).setCell ⟨b,23,none⟩ (.slice xAt xtail.length xct)).setCell ⟨b,24,none⟩ (.int .i64 xpos))) b 102 (obV (exO (.mk xk xt xm xa xb xAs xcs xsubs xAd xcd xdecls xAt xct xtail xpos) o))∧Kp (· = b) w ((((((((((w.setCell ⟨b,16,none⟩ (.int .i64 xk)).setCell ⟨b,17,none⟩ (.string ⟨xt.toArray⟩)).setCell ⟨b,18,none⟩ (.int .i64 xm)).setCell ⟨b,19,none⟩ (.string ⟨xa.toArray⟩)).setCell ⟨b,20,none⟩ (.string ⟨xb.toArray⟩)).setCell ⟨b,21,none⟩ (.slice xAs xsubs.length xcs)).setCell ⟨b,22,none⟩ (.slice xAd xdecls.length xcd)).setCell ⟨b,23,none⟩ (.slice xAt xtail.length xct)).setCell ⟨b,24,none⟩ (.int .i64 xpos))):=by
 refine⟨?_,?_⟩
 ·have:=((((((((h.set_ 16 (.int .i64 xk)).set_ 17 (.string ⟨xt.toArray⟩)).set_ 18 (.int .i64 xm)).set_ 19 (.string ⟨xa.toArray⟩)).set_ 20 (.string ⟨xb.toArray⟩)).set_ 21 (.slice xAs xsubs.length xcs)).set_ 22 (.slice xAd xdecls.length xcd)).set_ 23 (.slice xAt xtail.length xct)).set_ 24 (.int .i64 xpos)
  rw[obV_ex] at this
  exact this
 ·exact(((((((((Kp.refl (· = b) w).setCell (p:=⟨b,16,none⟩) rfl _).setCell (p:=⟨b,17,none⟩) rfl _).setCell (p:=⟨b,18,none⟩) rfl _).setCell (p:=⟨b,19,none⟩) rfl _).setCell (p:=⟨b,20,none⟩) rfl _).setCell (p:=⟨b,21,none⟩) rfl _).setCell (p:=⟨b,22,none⟩) rfl _).setCell (p:=⟨b,23,none⟩) rfl _).setCell (p:=⟨b,24,none⟩) rfl _
section
variable {X:Type}{R:RF}{C:Clo X}{n:Nat}{U:UseR X}
set_option maxRecDepth 100000 in
theorem zH1 {o:Oper}{P:Program}{Q:Exit→Act→World→Prop}{K:Act→World→Prop}{W:World}{fs:List Fact}{G:Act→Prop}{A0:Act}(aa ab ac ad ae af ag ah ai aj ak al am an ao ap aq ar au av aw ax ay az aA aB aC aD aE aF aG aH aI aJ aK aL aM aN aO aP aQ aR aS aT aU aV aW aX aY aZ a0 a1 a2 a3 a4 a5 a6 a7 a8 a9 ba bb bc bd be bf bg bh bi bj bk bl bm bn bo bp bq br bs:Value)(hG:∀ A,o.wp P A W K Q→G A)(h:A0=Act.mk #[aa,ab,ac,ad,ae,af,ag,ah,ai,aj,ak,al,am,an,ao,ap,aq,ar,au,av,aw,a9,ba,bb,bc,bd,be,bf,bg,bh,bi,bj,bk,bl,bm,bn,bo,bp,bq,br,bs,aR,aS,aT,aU,aV,aW,aX,aY,aZ,a0,a1,a2,a3,a4,a5,a6,a7,a8] []→o.wp P (Act.mk #[aa,ab,ac,ad,ae,af,ag,ah,ai,aj,ak,al,am,an,ao,ap,aq,ar,au,av,aw,a9,ba,bb,bc,bd,be,bf,bg,bh,bi,bj,bk,bl,bm,bn,bo,bp,bq,br,bs,aR,aS,aT,aU,aV,aW,aX,aY,aZ,a0,a1,a2,a3,a4,a5,a6,a7,a8] []) W K Q):zX1 W (fun B=>A0=B→G B) [] fs (Act.put (Act.put (Act.put (Act.put (Act.put (Act.put (Act.put (Act.put (Act.put (Act.put (Act.put (Act.put (Act.put (Act.put (Act.put (Act.put (Act.put (Act.put (Act.put (Act.put (Act.mk #[aa,ab,ac,ad,ae,af,ag,ah,ai,aj,ak,al,am,an,ao,ap,aq,ar,au,av,aw,ax,ay,az,aA,aB,aC,aD,aE,aF,aG,aH,aI,aJ,aK,aL,aM,aN,aO,aP,aQ,aR,aS,aT,aU,aV,aW,aX,aY,aZ,a0,a1,a2,a3,a4,a5,a6,a7,a8] []) (some 21) a9) (some 22) ba) (some 23) bb) (some 24) bc) (some 25) bd) (some 26) be) (some 27) bf) (some 28) bg) (some 29) bh) (some 30) bi) (some 31) bj) (some 32) bk) (some 33) bl) (some 34) bm) (some 35) bn) (some 36) bo) (some 37) bp) (some 38) bq) (some 39) br) (some 40) bs):=
 zM3 (by kernel_rfl) hG h
set_option maxRecDepth 100000 in
set_option maxHeartbeats 16000000 in
theorem zB5 (hE:∀ m e,n=m+1→zP4 R C m U e):RsvOk R C n U:=by
 intro σ Im w s b hS ho0
 obtain⟨o,ho,hob⟩:=ho0
 subst hob
 obtain⟨w1,hw1⟩:∃ w1,w.alloc (.cells #[.int .i64 0,.string ⟨#[]⟩,.int .i64 0,.string ⟨#[]⟩,.string ⟨#[]⟩,.slice none 0 0,.slice none 0 0,.slice none 0 0,.int .i64 0] 67)=w1:=⟨_,rfl⟩
 have hb1:Below w.heap.size w w1:=by rw[←hw1];exact(Below.refl w.heap.size w).alloc (Nat.le_refl _) _
 have hz1:w1.heap.size=w.heap.size+1:=by rw[←hw1];simp
 have F1:=Lib.hid ((Fr.start hS).below hb1)
 have M1:=Lib.hid (show Mine (zn R C σ Im) w1 w.heap.size from hS.zo.new_ (Nat.le_refl _) (by omega))
 have Z1:=Lib.hid (show Blk w1 w.heap.size 67 #[.int .i64 0,.string ⟨#[]⟩,.int .i64 0,.string ⟨#[]⟩,.string ⟨#[]⟩,.slice none 0 0,.slice none 0 0,.slice none 0 0,.int .i64 0] from by rw[←hw1];exact Blk.new w _ _)
 have HO:=Lib.hid ho
 have hB1:=F1.out.st.rs.ob.at_ o ho
 obtain⟨d11,d12,d14,d25,f14,f15,f25⟩:=obC2 hB1
 have HB1:=Lib.hid hB1
 have HE:=Lib.hid hE
 clear hS ho hb1 hB1 hE
 go_enter Tryz.func60,Tryz.ntmps60
 go_upto_region 1 with fail
 clear hw1
 by_cases hact:o.act=true
 ·rw[hact] at d14
  have HA:=Lib.hid hact
  have rf7:=F1.out.st.rs.rc.free 7
  have r7:=F1.out.st.rs.rc.cell 7
  obtain⟨S2,Q2,G2⟩:=F1.out.st.cyc true
  have F2:=Lib.hid (F1.out.step S2 Q2 G2)
  have M2:=Lib.hid (Q2.own M1.out)
  have Z2:=Lib.hid (Q2.kp.blk Z1.out M1.out.2.1)
  clear S2 Q2 G2 hact
  obtain⟨zf0,zf1,zf2,zf3,zf4,zf5,zf6,zf7,zf8⟩:=zK7 Z2.out
  obtain⟨y0,y1,y2,y3,y4,y5,y6,y7,y8⟩:=zZ6 Z2.out
  go_upto_region 3 with fail
  generalize w1.setCell ⟨R.r,7,none⟩ (.bool true)=w2 at F2 M2 Z2 zf0 zf1 zf2 zf3 zf4 zf5 zf6 zf7 zf8 y0 y1 y2 y3 y4 y5 y6 y7 y8 ⊢
  go_wp2
  clear y0 y1 y2 y3 y4 y5 y6 y7 y8 zf0 zf1 zf2 zf3 zf4 zf5 zf6 zf7 zf8 d11 d12 d14 d25 f14 f15 f25 rf7 r7
  obtain⟨F6,hB6,hK6⟩:=F2.out.store9 (by omega) M2.out Z2.out (.int .i64 0) (.string ⟨#[]⟩) (.int .i64 0) (.string ⟨#[]⟩) (.string ⟨#[]⟩) (.slice none 0 0) (.slice none 0 0) (.slice none 0 0) (.int .i64 0)
  have HR:=Lib.hid (show RetE R C n s σ Im w (ResO R U σ o.blk) (.returned (.agg #[.int .i64 0,.string ⟨#[]⟩,.int .i64 0,.string ⟨#[]⟩,.string ⟨#[]⟩,.slice none 0 0,.slice none 0 0,.slice none 0 0,.int .i64 0])) _ from⟨_,Im,zO0,rfl,⟨o,HO.out,rfl,.inl ⟨HA.out,rfl,rfl⟩⟩,F6.st,F6.sp,F6.gr,yV5 _ _⟩)
  obtain⟨z0,z1,z2,z3,z4,z5,z6,z7,z8⟩:=zZ6 hB6
  refine bodyPost_ret (v:=.agg #[.int .i64 0,.string ⟨#[]⟩,.int .i64 0,.string ⟨#[]⟩,.string ⟨#[]⟩,.slice none 0 0,.slice none 0 0,.slice none 0 0,.int .i64 0]) ?_ rfl HR.out
  simp[results,Tryz.results60,go_sem,z0,z1,z2,z3,z4,z5,z6,z7,z8]
 ·rw[Bool.not_eq_true] at hact
  rw[hact] at d14
  have HA:=Lib.hid hact
  clear hact
  by_cases hdn:o.done=true
  ·rw[hdn] at d25
   have HD:=Lib.hid hdn
   clear hdn
   have hxe:∃ xk xt xm xa xb xAs xcs xsubs xAd xcd xdecls xAt xct xtail xpos,o.ex=.mk xk xt xm xa xb xAs xcs xsubs xAd xcd xdecls xAt xct xtail xpos:=by cases o.ex;exact⟨_,_,_,_,_,_,_,_,_,_,_,_,_,_,_,rfl⟩
   obtain⟨xk,xt,xm,xa,xb,xAs,xcs,xsubs,xAd,xcd,xdecls,xAt,xct,xtail,xpos,hex⟩:=hxe
   obtain⟨c0,c1,c2,c3,c4,c5,c6,c7,c8⟩:=obEx HB1.out hex
   have HX:=Lib.hid (show OkI Im w1 (.mk xk xt xm xa xb xAs xcs xsubs xAd xcd xdecls xAt xct xtail xpos) from hex▸(F1.out.st.lo o HO.out).ex)
   have HEx:=Lib.hid hex
   clear hex
   obtain⟨zf0,zf1,zf2,zf3,zf4,zf5,zf6,zf7,zf8⟩:=zK7 Z1.out
   obtain⟨y0,y1,y2,y3,y4,y5,y6,y7,y8⟩:=zZ6 Z1.out
   go_wp2
   clear y0 y1 y2 y3 y4 y5 y6 y7 y8 zf0 zf1 zf2 zf3 zf4 zf5 zf6 zf7 zf8 d11 d12 d14 d25 f14 f15 f25 c0 c1 c2 c3 c4 c5 c6 c7 c8
   obtain⟨F6,hB6,hK6⟩:=F1.out.store9 (by omega) M1.out Z1.out (.int .i64 xk) (.string ⟨xt.toArray⟩) (.int .i64 xm) (.string ⟨xa.toArray⟩) (.string ⟨xb.toArray⟩) (.slice xAs xsubs.length xcs) (.slice xAd xdecls.length xcd) (.slice xAt xtail.length xct) (.int .i64 xpos)
   have hn5:∀ q,Im q→¬ q=w.heap.size:=fun q hq e=>M1.out.2.2 (e▸hq)
   have HR:=Lib.hid (show RetE R C n s σ Im w (ResO R U σ o.blk) (.returned (.agg #[.int .i64 xk,.string ⟨xt.toArray⟩,.int .i64 xm,.string ⟨xa.toArray⟩,.string ⟨xb.toArray⟩,.slice xAs xsubs.length xcs,.slice xAd xdecls.length xcd,.slice xAt xtail.length xct,.int .i64 xpos])) _ from⟨_,Im,.mk xk xt xm xa xb xAs xcs xsubs xAd xcd xdecls xAt xct xtail xpos,rfl,⟨o,HO.out,rfl,.inr (.inl ⟨HA.out,HD.out,rfl,HEx.out.symm⟩)⟩,F6.st,F6.sp,F6.gr,(zZ5 hK6 hn5 (fun _ h=>h)).1 _ HX.out⟩)
   obtain⟨z0,z1,z2,z3,z4,z5,z6,z7,z8⟩:=zZ6 hB6
   refine bodyPost_ret (v:=.agg #[.int .i64 xk,.string ⟨xt.toArray⟩,.int .i64 xm,.string ⟨xa.toArray⟩,.string ⟨xb.toArray⟩,.slice xAs xsubs.length xcs,.slice xAd xdecls.length xcd,.slice xAt xtail.length xct,.int .i64 xpos]) ?_ rfl HR.out
   simp[results,Tryz.results60,go_sem,z0,z1,z2,z3,z4,z5,z6,z7,z8]
  ·rw[Bool.not_eq_true] at hdn
   rw[hdn] at d25
   have HD:=Lib.hid hdn
   clear hdn
   have hoA:=F1.out.st.lo o HO.out
   obtain⟨e0,he0⟩:=hoA.one
   have hwo:=wOb_sub HA.out HD.out he0
   have hmem:=zB4 (b:=o.blk) wOb_act HO.out rfl
   have hlv:=F1.out.st.lv
   obtain⟨m,hm⟩:∃ m,n=m+1:=⟨n-1,by omega⟩
   have hkA:Kp (· = o.blk) w1 (w1.setCell ⟨o.blk,14,none⟩ (.bool true)):=(Kp.refl (· = o.blk) w1).setCell (p:=⟨o.blk,14,none⟩) rfl _
   have hBA:Blk (w1.setCell ⟨o.blk,14,none⟩ (.bool true)) o.blk 102 (obV (actO o)):=by
    have h:=HB1.out.set_ 14 (.bool true)
    rw[obV_act] at h
    exact h
   have hiA:∀ c,Im c→¬ c=o.blk:=F1.out.st.stay fun c hc=>.inr (.inr (.inl ⟨o,HO.out,hc.symm⟩))
   obtain⟨S2,Q2,G2⟩:=F1.out.st.at_ (f:=actO) (n':=m) (s':=s+wE e0) (fun _=>⟨rfl,rfl,rfl,rfl⟩) (fun o' ho' _=>((F1.out.st.lo o' ho').kept hkA hiA (fun _ h=>h)).ex) ⟨o,HO.out,rfl⟩
    (by show wObs (σ.ρ.objs.map (atOb o.blk actO))+_≤_;omega) (by show wObs (σ.ρ.objs.map (atOb o.blk actO))+_≤_;omega) hkA (fun o' ho' e=>by rw[zQ7 F1.out.st.rs.ob.nd ho' HO.out e];exact hBA)
   have F2:=Lib.hid (show Fr R C m (s+wE e0) σ Im w {σ with ρ:=σ.ρ.at_ o.blk actO} Im (w1.setCell ⟨o.blk,14,none⟩ (.bool true)) from⟨S2,F1.out.sp.trans Q2,F1.out.gr.trans G2 F1.out.sp.kp.size⟩)
   have M2:=Lib.hid (Q2.own M1.out)
   have Z2:=Lib.hid (Q2.kp.blk Z1.out M1.out.2.1)
   have B2:=Lib.hid hBA
   have L2:=Lib.hid (hoA.kept hkA hiA (fun _ h=>h))
   have HE0:=Lib.hid he0
   have HM:=Lib.hid hm
   clear S2 Q2 G2 hkA hBA hiA hoA he0 hwo hmem hlv hm
   go_upto_region 6 with fail
   clear d11 d12 d14 d25 f14 f15 f25
   obtain⟨wA,hwA⟩:∃ x,w1.setCell ⟨o.blk,14,none⟩ (.bool true)=x:=⟨_,rfl⟩
   rw[hwA] at F2 M2 Z2 B2 L2 ⊢
   clear hwA
   obtain⟨w3,hw3⟩:∃ w3,wA.drew=w3:=⟨_,rfl⟩
   have hbd:Below wA.heap.size wA w3:=by rw[←hw3];exact(Below.refl _ _).drew
   have F3:=Lib.hid (F2.out.below hbd)
   have M3:=Lib.hid (M2.out.up hbd.size)
   have Z3:=Lib.hid (Z2.out.keep hbd)
   have B3:=Lib.hid (B2.out.keep hbd)
   have L3:=Lib.hid (L2.out.kept (N:=fun _=>False) (Kp.ofBelow hbd _) (fun _ _ h=>h) (fun _ h=>h))
   clear F2 M2 Z2 B2 L2 hbd
   obtain⟨d11,d12,_,_,_,_,_⟩:=obC2 B3.out
   obtain⟨As,cs,d5,hSI,hOI⟩:=obSub (o:=actO o) B3.out HE0.out L3.out.ok
   dsimp only[actO] at d11 d12 d5
   obtain⟨bb,off,hA,hbW,hc⟩:=hSI.n.1.at_ (i:=0) (by simp)
   have hne:σ.en o.sc≠[]:=fun e=>by
    have h:=L3.out.env.1
    rw[e] at h
    cases h
   have hh:=hE_sub HE0.out
   have hd:=L3.out.hd
   have cE:=Lib.hid (HE.out m e0 HM.out _ Im w3 s (σ.en o.sc) (.pointer (some ⟨o.sc,0,none⟩)) [] none 0 o.file F3.out.st hOI L3.out.env (L3.out.kn.gr F3.out.gr) hne (SlI.nil_ _ _ _ _ _) L3.out.hf (by omega) (by simp;omega))
   have hxe:∃ xk xt xm xa xb xAs xcs xsubs xAd xcd xdecls xAt xct xtail xpos,e0=.mk xk xt xm xa xb xAs xcs xsubs xAd xcd xdecls xAt xct xtail xpos:=by cases e0;exact⟨_,_,_,_,_,_,_,_,_,_,_,_,_,_,_,rfl⟩
   obtain⟨xk,xt,xm,xa,xb,xAs,xcs,xsubs,xAd,xcd,xdecls,xAt,xct,xtail,xpos,hex⟩:=hxe
   have HEX:=Lib.hid hex
   rw[hex] at hc
   have c0:=hc 0 _ rfl
   have c1:=hc 1 _ rfl
   have c2:=hc 2 _ rfl
   have c3:=hc 3 _ rfl
   have c4:=hc 4 _ rfl
   have c5:=hc 5 _ rfl
   have c6:=hc 6 _ rfl
   have c7:=hc 7 _ rfl
   have c8:=hc 8 _ rfl
   simp only[Nat.zero_mul,Nat.add_zero] at c0 c1 c2 c3 c4 c5 c6 c7 c8
   rw[hA] at d5
   have hca:=cE.out
   rw[hex] at hca
   simp only[encE,List.length_nil] at hca
   rw[←hex] at hca
   have HCa:=Lib.hid hca
   clear hc hA hbW hSI hOI hne hh hd cE hca hex
   apply zU0 (by kernel_rfl) [isv _,isv _,isv _,isv _,isv _,isv _,isv _,isv _,isv _,isv _,isv _,isv _,isv _,isv _,isv _,isv _,isv _,(fun x _=>∃ (v0 v1 v2 v3 v4 v5 v6 v7 v8:Value),x=.agg #[v0,v1,v2,v3,v4,v5,v6,v7,v8]),isv _,isv _] (fun D A W=>(D 17=false∧w3=W)∨(D 17=true∧(fun A W=>∃ σ3 Im3 e3,A.tmps[38]? = some (.agg (encE e3).toArray)∧VisE R U e0 (σ.en o.sc) [] o.file {σ with ρ:=σ.ρ.at_ o.blk actO} σ3 e3∧St R C m s σ3 Im3 W∧Sp (zn R C {σ with ρ:=σ.ρ.at_ o.blk actO} Im) w3 (zn R C σ3 Im3) W∧Gr w3 {σ with ρ:=σ.ρ.at_ o.blk actO} σ3∧OkI Im3 W e3) A W)) (.inl ⟨rfl,hw3.symm⟩) (by kernel_rfl) (by kernel_rfl) (by kernel_rfl) (by kernel_rfl) (by kernel_rfl) (And.intro (zZ2 _) (And.intro (zZ2 _) (And.intro (zZ2 _) (And.intro (zZ2 _) (And.intro (zZ2 _) (And.intro (zZ2 _) (And.intro (zZ2 _) (And.intro (zZ2 _) (And.intro (zZ2 _) (And.intro (zZ2 _) (And.intro (zZ2 _) (And.intro (zZ2 _) (And.intro (zZ2 _) (And.intro (zZ2 _) (And.intro (zZ2 _) (And.intro (zZ2 _) (And.intro (zZ2 _) (And.intro (fun _ _ _ h=>h) (And.intro (zZ2 _) (And.intro (zZ2 _) trivial)))))))))))))))))))) ?steps (by rfl) _ rfl rfl ?fin
   case steps=>
    refine(And.intro ?o0 (And.intro ?o1 (And.intro ?o2 (And.intro ?o3 (And.intro ?o4 (And.intro ?o5 (And.intro ?o6 (And.intro ?o7 (And.intro ?o8 (And.intro ?o9 (And.intro ?o10 (And.intro ?o11 (And.intro ?o12 (And.intro ?o13 (And.intro ?o14 (And.intro ?o15 (And.intro ?o16 (And.intro ?o17 (And.intro ?o18 (And.intro ?o19 trivial))))))))))))))))))))
    case o0=>
     intro AA W D KK QQ hsz hP hi hdn hnd hs hd hl hk
     have HSZ:=Lib.hid hsz
     clear hsz
     have hP0:=hP
     have sl1:=hs 1 _ (by kernel_rfl) rfl
     clear hs hd hl hdn hnd
     go_simp
     exact hk _ _ rfl (hP0.imp (fun h=>h) fun h=>⟨h.1,(fun⟨a,b,c,h1,h2⟩=>⟨a,b,c,by rw[zG1 (by decide)];exact h1,h2⟩) h.2⟩)
    case o1=>
     intro AA W D KK QQ hsz hP hi hdn hnd hs hd hl hk
     have HSZ:=Lib.hid hsz
     clear hsz
     have hP0:=hP
     have hc:=hnd 17 (by kernel_rfl)
     have hW:=phA hP hc
     subst hW
     have sl0:=hs 0 _ (by kernel_rfl) rfl
     clear hs hd hl hdn hnd
     go_simp
     exact hk _ _ rfl (.inl ⟨hc,rfl⟩)
    case o2=>
     intro AA W D KK QQ hsz hP hi hdn hnd hs hd hl hk
     have HSZ:=Lib.hid hsz
     clear hsz
     have hP0:=hP
     have hc:=hnd 17 (by kernel_rfl)
     have hW:=phA hP hc
     subst hW
     have sl1:=hs 1 _ (by kernel_rfl) rfl
     clear hs hd hl hdn hnd
     go_simp
     exact hk _ _ rfl (.inl ⟨hc,rfl⟩)
    case o3=>
     intro AA W D KK QQ hsz hP hi hdn hnd hs hd hl hk
     have HSZ:=Lib.hid hsz
     clear hsz
     have hP0:=hP
     have hc:=hnd 17 (by kernel_rfl)
     have hW:=phA hP hc
     subst hW
     obtain⟨_,sl23,rfl⟩:=hd 2 23 (by kernel_rfl) rfl
     clear hs hd hl hdn hnd
     go_simp
     exact hk _ _ rfl (.inl ⟨hc,rfl⟩)
    case o4=>
     intro AA W D KK QQ hsz hP hi hdn hnd hs hd hl hk
     have HSZ:=Lib.hid hsz
     clear hsz
     have hP0:=hP
     have hc:=hnd 17 (by kernel_rfl)
     have hW:=phA hP hc
     subst hW
     obtain⟨_,sl24,rfl⟩:=hd 3 24 (by kernel_rfl) rfl
     clear hs hd hl hdn hnd
     go_simp
     exact hk _ _ rfl (.inl ⟨hc,rfl⟩)
    case o5=>
     intro AA W D KK QQ hsz hP hi hdn hnd hs hd hl hk
     have HSZ:=Lib.hid hsz
     clear hsz
     have hP0:=hP
     have hc:=hnd 17 (by kernel_rfl)
     have hW:=phA hP hc
     subst hW
     obtain⟨_,sl25,rfl⟩:=hd 4 25 (by kernel_rfl) rfl
     clear hs hd hl hdn hnd
     go_simp
     exact hk _ _ rfl (.inl ⟨hc,rfl⟩)
    case o6=>
     intro AA W D KK QQ hsz hP hi hdn hnd hs hd hl hk
     have HSZ:=Lib.hid hsz
     clear hsz
     have hP0:=hP
     have hc:=hnd 17 (by kernel_rfl)
     have hW:=phA hP hc
     subst hW
     obtain⟨_,sl26,rfl⟩:=hd 5 26 (by kernel_rfl) rfl
     clear hs hd hl hdn hnd
     go_simp
     exact hk _ _ rfl (.inl ⟨hc,rfl⟩)
    case o7=>
     intro AA W D KK QQ hsz hP hi hdn hnd hs hd hl hk
     have HSZ:=Lib.hid hsz
     clear hsz
     have hP0:=hP
     have hc:=hnd 17 (by kernel_rfl)
     have hW:=phA hP hc
     subst hW
     obtain⟨_,sl27,rfl⟩:=hd 6 27 (by kernel_rfl) rfl
     clear hs hd hl hdn hnd
     go_simp
     exact hk _ _ rfl (.inl ⟨hc,rfl⟩)
    case o8=>
     intro AA W D KK QQ hsz hP hi hdn hnd hs hd hl hk
     have HSZ:=Lib.hid hsz
     clear hsz
     have hP0:=hP
     have hc:=hnd 17 (by kernel_rfl)
     have hW:=phA hP hc
     subst hW
     obtain⟨_,sl28,rfl⟩:=hd 7 28 (by kernel_rfl) rfl
     clear hs hd hl hdn hnd
     go_simp
     exact hk _ _ rfl (.inl ⟨hc,rfl⟩)
    case o9=>
     intro AA W D KK QQ hsz hP hi hdn hnd hs hd hl hk
     have HSZ:=Lib.hid hsz
     clear hsz
     have hP0:=hP
     have hc:=hnd 17 (by kernel_rfl)
     have hW:=phA hP hc
     subst hW
     have sl1:=hs 1 _ (by kernel_rfl) rfl
     clear hs hd hl hdn hnd
     go_simp
     exact hk _ _ rfl (.inl ⟨hc,rfl⟩)
    case o10=>
     intro AA W D KK QQ hsz hP hi hdn hnd hs hd hl hk
     have HSZ:=Lib.hid hsz
     clear hsz
     have hP0:=hP
     have hc:=hnd 17 (by kernel_rfl)
     have hW:=phA hP hc
     subst hW
     obtain⟨_,sl30,rfl⟩:=hd 9 30 (by kernel_rfl) rfl
     clear hs hd hl hdn hnd
     go_simp
     exact hk _ _ rfl (.inl ⟨hc,rfl⟩)
    case o11=>
     intro AA W D KK QQ hsz hP hi hdn hnd hs hd hl hk
     have HSZ:=Lib.hid hsz
     clear hsz
     have hP0:=hP
     have hc:=hnd 17 (by kernel_rfl)
     have hW:=phA hP hc
     subst hW
     obtain⟨_,sl31,rfl⟩:=hd 10 31 (by kernel_rfl) rfl
     clear hs hd hl hdn hnd
     go_simp
     exact hk _ _ rfl (.inl ⟨hc,rfl⟩)
    case o12=>
     intro AA W D KK QQ hsz hP hi hdn hnd hs hd hl hk
     have HSZ:=Lib.hid hsz
     clear hsz
     have hP0:=hP
     have hc:=hnd 17 (by kernel_rfl)
     have hW:=phA hP hc
     subst hW
     obtain⟨_,sl32,rfl⟩:=hd 11 32 (by kernel_rfl) rfl
     clear hs hd hl hdn hnd
     go_simp
     exact hk _ _ rfl (.inl ⟨hc,rfl⟩)
    case o13=>
     intro AA W D KK QQ hsz hP hi hdn hnd hs hd hl hk
     have HSZ:=Lib.hid hsz
     clear hsz
     have hP0:=hP
     have hc:=hnd 17 (by kernel_rfl)
     have hW:=phA hP hc
     subst hW
     have sl1:=hs 1 _ (by kernel_rfl) rfl
     clear hs hd hl hdn hnd
     go_simp
     exact hk _ _ rfl (.inl ⟨hc,rfl⟩)
    case o14=>
     intro AA W D KK QQ hsz hP hi hdn hnd hs hd hl hk
     have HSZ:=Lib.hid hsz
     clear hsz
     have hP0:=hP
     have hc:=hnd 17 (by kernel_rfl)
     have hW:=phA hP hc
     subst hW
     obtain⟨_,sl34,rfl⟩:=hd 13 34 (by kernel_rfl) rfl
     clear hs hd hl hdn hnd
     go_simp
     exact hk _ _ rfl (.inl ⟨hc,rfl⟩)
    case o15=>
     intro AA W D KK QQ hsz hP hi hdn hnd hs hd hl hk
     have HSZ:=Lib.hid hsz
     clear hsz
     have hP0:=hP
     have hc:=hnd 17 (by kernel_rfl)
     have hW:=phA hP hc
     subst hW
     obtain⟨_,sl35,rfl⟩:=hd 14 35 (by kernel_rfl) rfl
     clear hs hd hl hdn hnd
     go_simp
     exact hk _ _ rfl (.inl ⟨hc,rfl⟩)
    case o16=>
     intro AA W D KK QQ hsz hP hi hdn hnd hs hd hl hk
     have HSZ:=Lib.hid hsz
     clear hsz
     have hP0:=hP
     have hc:=hnd 17 (by kernel_rfl)
     have hW:=phA hP hc
     subst hW
     obtain⟨_,sl36,rfl⟩:=hd 15 36 (by kernel_rfl) rfl
     clear hs hd hl hdn hnd
     go_simp
     exact hk _ _ rfl (.inl ⟨hc,rfl⟩)
    case o17=>
     intro AA W D KK QQ hsz hP hi hdn hnd hs hd hl hk
     have HSZ:=Lib.hid hsz
     clear hsz
     have hW:=phA hP hi
     subst hW
     obtain⟨_,sl22,rfl⟩:=hd 1 22 (by kernel_rfl) rfl
     obtain⟨_,sl29,rfl⟩:=hd 8 29 (by kernel_rfl) rfl
     obtain⟨_,sl33,rfl⟩:=hd 12 33 (by kernel_rfl) rfl
     obtain⟨_,sl37,rfl⟩:=hd 16 37 (by kernel_rfl) rfl
     clear hs hd hl hdn hnd
     go_simp
     refine HCa.out.mono ?_
     rintro e w4 ⟨σ3,Im3,e3,rfl,hV,hS3,hQ3,hG3,hO3⟩
     have H3:=Lib.hid (show _∧_∧_∧_∧_ from⟨hV,hS3,hQ3,hG3,hO3⟩)
     clear hV hS3 hQ3 hG3 hO3
     have HXe:∃ zk zt zm za zb zAs zcs zsubs zAd zcd zdecls zAt zct ztail zpos,e3=.mk zk zt zm za zb zAs zcs zsubs zAd zcd zdecls zAt zct ztail zpos:=by cases e3;exact⟨_,_,_,_,_,_,_,_,_,_,_,_,_,_,_,rfl⟩
     obtain⟨zk,zt,zm,za,zb,zAs,zcs,zsubs,zAd,zcd,zdecls,zAt,zct,ztail,zpos,rfl⟩:=HXe
     simp only[encE]
     go_simp
     exact hk _ _ ⟨_,_,_,_,_,_,_,_,_,rfl⟩ (.inr ⟨rfl,σ3,Im3,_,act_at HSZ.out (by simp) _,H3.out⟩)
    case o18=>
     intro AA W D KK QQ hsz hP hi hdn hnd hs hd hl hk
     have HSZ:=Lib.hid hsz
     clear hsz
     have hP0:=hP
     have hc:=hdn 17 (by kernel_rfl)
     have hP2:=phB hP hc
     obtain⟨_,sl21,rfl⟩:=hd 0 21 (by kernel_rfl) rfl
     clear hs hd hl hdn hnd
     go_simp
     exact hk _ _ rfl (hP0.imp (fun h=>h) fun h=>⟨h.1,(fun⟨a,b,c,h1,h2⟩=>⟨a,b,c,by rw[zG1 (by decide)];exact h1,h2⟩) h.2⟩)
    case o19=>
     intro AA W D KK QQ hsz hP hi hdn hnd hs hd hl hk
     have HSZ:=Lib.hid hsz
     clear hsz
     have hP0:=hP
     have hc:=hdn 17 (by kernel_rfl)
     have hP2:=phB hP hc
     obtain⟨_,sl39,rfl⟩:=hd 18 39 (by kernel_rfl) rfl
     clear hs hd hl hdn hnd
     go_simp
     exact hk _ _ rfl (hP0.imp (fun h=>h) fun h=>⟨h.1,(fun⟨a,b,c,h1,h2⟩=>⟨a,b,c,by rw[zG1 (by decide)];exact h1,h2⟩) h.2⟩)
   case fin=>
    intro w5 D A0 hD hP GG hGG
    have hP2:=phB hP (hD 17 (by decide))
    refine zZ0 21 rfl ?_
    refine zZ0 22 rfl ?_
    refine zZ0 23 rfl ?_
    refine zZ0 24 rfl ?_
    refine zZ0 25 rfl ?_
    refine zZ0 26 rfl ?_
    refine zZ0 27 rfl ?_
    refine zZ0 28 rfl ?_
    refine zZ0 29 rfl ?_
    refine zZ0 30 rfl ?_
    refine zZ0 31 rfl ?_
    refine zZ0 32 rfl ?_
    refine zZ0 33 rfl ?_
    refine zZ0 34 rfl ?_
    refine zZ0 35 rfl ?_
    refine zZ0 36 rfl ?_
    refine zZ0 37 rfl ?_
    refine zZ9 38 rfl ?_
    rintro _ ⟨v0,v1,v2,v3,v4,v5,v6,v7,v8,rfl⟩
    refine zZ0 39 rfl ?_
    refine zZ0 40 rfl ?_
    refine zH1 _ _ _ _ _ _ _ _ _ _ _ _ _ _ _ _ _ _ _ _ _ _ _ _ _ _ _ _ _ _ _ _ _ _ _ _ _ _ _ _ _ _ _ _ _ _ _ _ _ _ _ _ _ _ _ _ _ _ _ _ _ _ _ _ _ _ _ _ _ _ _ _ _ _ _ _ _ _ _ hGG ?_
    intro hA0
    subst hA0
    obtain⟨σ3,Im3,e3,hv,hV,hS3,hQ3,hG3,hO3⟩:=hP2
    have hze:∃ zk zt zm za zb zAs zcs zsubs zAd zcd zdecls zAt zct ztail zpos,e3=.mk zk zt zm za zb zAs zcs zsubs zAd zcd zdecls zAt zct ztail zpos:=by cases e3;exact⟨_,_,_,_,_,_,_,_,_,_,_,_,_,_,_,rfl⟩
    obtain⟨zk,zt,zm,za,zb,zAs,zcs,zsubs,zAd,zcd,zdecls,zAt,zct,ztail,zpos,rfl⟩:=hze
    simp[encE] at hv
    obtain⟨rfl,rfl,rfl,rfl,rfl,rfl,rfl,rfl,rfl⟩:=hv
    obtain⟨o3,ho3,hob3⟩:=hG3.ob (actO o) (List.mem_map.2 ⟨o,HO.out,if_pos rfl⟩)
    have hob4:o3.blk=o.blk:=hob3
    have hB4:=hS3.rs.ob.at_ o3 ho3
    rw[hob4] at hB4
    have hn3:∀ q,Im3 q→¬ q=o.blk:=hS3.stay fun c hc=>.inr (.inr (.inl ⟨o3,ho3,by rw[hob4];exact hc.symm⟩))
    have F4:=Lib.hid (F3.out.step hS3 hQ3 hG3)
    have M4:=Lib.hid (hQ3.own M3.out)
    have Z4:=Lib.hid (hQ3.kp.blk Z3.out M3.out.2.1)
    obtain⟨f16,f17,f18,f19,f20,f21,f22,f23,f24⟩:=obFr hB4
    have hye:∃ yk yt ym ya yb yAs ycs ysubs yAd ycd ydecls yAt yct ytail ypos,o3.ex=.mk yk yt ym ya yb yAs ycs ysubs yAd ycd ydecls yAt yct ytail ypos:=by cases o3.ex;exact⟨_,_,_,_,_,_,_,_,_,_,_,_,_,_,_,rfl⟩
    obtain⟨yk,yt,ym,ya,yb,yAs,ycs,ysubs,yAd,ycd,ydecls,yAt,yct,ytail,ypos,hye⟩:=hye
    obtain⟨y0,y1,y2,y3,y4,y5,y6,y7,y8⟩:=obEx hB4 hye
    obtain⟨hB6,hK6⟩:=xW4 (xk:=zk) (xt:=zt) (xm:=zm) (xa:=za) (xb:=zb) (xAs:=zAs) (xcs:=zcs) (xsubs:=zsubs) (xAd:=zAd) (xcd:=zcd) (xdecls:=zdecls) (xAt:=zAt) (xct:=zct) (xtail:=ztail) (xpos:=zpos) hB4
    have H6:=Lib.hid (show _∧_ from⟨hB6,hK6⟩)
    have HV:=Lib.hid hV
    have HO3:=Lib.hid hO3
    have HN3:=Lib.hid hn3
    have HM3:=Lib.hid (show _∧_ from⟨ho3,hob4⟩)
    clear hV hS3 hQ3 hG3 hO3 hn3 hB6 hK6 hB4 hye hP ho3 hob3 hob4 c0 c1 c2 c3 c4 c5 c6 c7 c8 d5 d11 d12
    go_upto_region 7 with fail
    clear f16 f17 f18 f19 f20 f21 f22 f23 f24 y0 y1 y2 y3 y4 y5 y6 y7 y8
    generalize (((((((((w5.setCell ⟨o.blk,16,none⟩ (.int .i64 zk)).setCell ⟨o.blk,17,none⟩ (.string ⟨zt.toArray⟩)).setCell ⟨o.blk,18,none⟩ (.int .i64 zm)).setCell ⟨o.blk,19,none⟩ (.string ⟨za.toArray⟩)).setCell ⟨o.blk,20,none⟩ (.string ⟨zb.toArray⟩)).setCell ⟨o.blk,21,none⟩ (.slice zAs zsubs.length zcs)).setCell ⟨o.blk,22,none⟩ (.slice zAd zdecls.length zcd)).setCell ⟨o.blk,23,none⟩ (.slice zAt ztail.length zct)).setCell ⟨o.blk,24,none⟩ (.int .i64 zpos))=w6 at H6 ⊢
    have B6:=Lib.hid H6.out.1
    have O6:=Lib.hid ((zZ5 H6.out.2 HN3.out (fun _ h=>h)).1 _ HO3.out)
    have cH:=yD9 _ w6 (yA7.1 _ O6.out)
    simp only[encE] at cH
    obtain⟨y0,y1,y2,y3,y4,y5,y6,y7,y8⟩:=obEx B6.out rfl
    obtain⟨ht,hht⟩:∃ ht,ht=htE 17 (plE (.mk zk zt zm za zb zAs zcs zsubs zAd zcd zdecls zAt zct ztail zpos)):=⟨_,rfl⟩
    rw[←hht] at cH
    have HHt:=Lib.hid hht
    clear hht
    go_wp2_with fail
    refine cH.mono ?_
    rintro e w7 ⟨rfl,hb7⟩
    clear cH y0 y1 y2 y3 y4 y5 y6 y7 y8
    have B7:=Lib.hid (B6.out.keep hb7)
    have K7:=Lib.hid (H6.out.2.trans (Kp.ofBelow hb7 (· = o.blk)))
    obtain⟨_,_,d14,d25,f14,f15,f25⟩:=obC2 B7.out
    have d15:=obH B7.out
    clear hb7
    go_upto_region 9 with fail
    clear d14 d25 f14 f15 f25 d15
    generalize hw9:((w7.setCell ⟨o.blk,15,none⟩ (.int .i64 (ht:Nat))).setCell ⟨o.blk,14,none⟩ (.bool false)).setCell ⟨o.blk,25,none⟩ (.bool true)=w9
    have B9:=Lib.hid (show Blk w9 o.blk 102 (obV (zR3 (.mk zk zt zm za zb zAs zcs zsubs zAd zcd zdecls zAt zct ztail zpos) o3)) from by
     have h:=((B7.out.set_ 15 (.int .i64 (ht:Nat))).set_ 14 (.bool false)).set_ 25 (.bool true)
     rw[HHt.out,obV_done,←HHt.out,hw9] at h
     exact h)
    have K9:=Lib.hid (show Kp (· = o.blk) w5 w9 from by
     rw[←hw9]
     exact((K7.out.setCell (p:=⟨o.blk,15,none⟩) rfl _).setCell (p:=⟨o.blk,14,none⟩) rfl _).setCell (p:=⟨o.blk,25,none⟩) rfl _)
    clear hw9
    have hS3:=F4.out.st
    have hw1:=yK3 (b:=o.blk) (wOb_done (.mk zk zt zm za zb zAs zcs zsubs zAd zcd zdecls zAt zct ztail zpos)) σ3.ρ.objs
    have hlv:=hS3.lv
    have hnm:=HM.out
    obtain⟨S9,Q9,G9⟩:=hS3.at_ (f:=zR3 (.mk zk zt zm za zb zAs zcs zsubs zAd zcd zdecls zAt zct ztail zpos)) (n':=n) (s':=s) (fun _=>⟨rfl,rfl,rfl,rfl⟩) (fun o' _ _=>(zZ5 K9.out HN3.out (fun _ h=>h)).1 _ HO3.out) ⟨o3,HM3.out.1,HM3.out.2⟩
     (by show wObs (σ3.ρ.objs.map (atOb o.blk (zR3 _)))+_≤_;omega) (by show wObs (σ3.ρ.objs.map (atOb o.blk (zR3 _)))+_≤_;omega) K9.out (fun o' ho' e=>by rw[zQ7 hS3.rs.ob.nd ho' HM3.out.1 (e.trans HM3.out.2.symm)];exact B9.out)
    have F9:=Lib.hid (show Fr R C n s σ Im w _ Im3 w9 from⟨S9,F4.out.sp.trans Q9,F4.out.gr.trans G9 F4.out.sp.kp.size⟩)
    have M9:=Lib.hid (Q9.own M4.out)
    have Z9:=Lib.hid (Q9.kp.blk Z4.out M4.out.2.1)
    have O9:=Lib.hid ((zZ5 K9.out HN3.out (fun _ h=>h)).1 _ HO3.out)
    clear S9 Q9 G9 hS3 hw1 hlv hnm
    obtain⟨c0,c1,c2,c3,c4,c5,c6,c7,c8⟩:=obEx B9.out rfl
    obtain⟨zf0,zf1,zf2,zf3,zf4,zf5,zf6,zf7,zf8⟩:=zK7 Z9.out
    obtain⟨y0,y1,y2,y3,y4,y5,y6,y7,y8⟩:=zZ6 Z9.out
    go_wp2
    clear y0 y1 y2 y3 y4 y5 y6 y7 y8 zf0 zf1 zf2 zf3 zf4 zf5 zf6 zf7 zf8 c0 c1 c2 c3 c4 c5 c6 c7 c8
    obtain⟨F8,hB8,hK8⟩:=F9.out.store9 (by omega) M9.out Z9.out (.int .i64 zk) (.string ⟨zt.toArray⟩) (.int .i64 zm) (.string ⟨za.toArray⟩) (.string ⟨zb.toArray⟩) (.slice zAs zsubs.length zcs) (.slice zAd zdecls.length zcd) (.slice zAt ztail.length zct) (.int .i64 zpos)
    have hn9:∀ q,Im3 q→¬ q=w.heap.size:=fun q hq e=>M9.out.2.2 (e▸hq)
    have HR:=Lib.hid (show RetE R C n s σ Im w (ResO R U σ o.blk) (.returned (.agg #[.int .i64 zk,.string ⟨zt.toArray⟩,.int .i64 zm,.string ⟨za.toArray⟩,.string ⟨zb.toArray⟩,.slice zAs zsubs.length zcs,.slice zAd zdecls.length zcd,.slice zAt ztail.length zct,.int .i64 zpos])) _ from⟨_,Im3,.mk zk zt zm za zb zAs zcs zsubs zAd zcd zdecls zAt zct ztail zpos,rfl,⟨o,HO.out,rfl,.inr (.inr ⟨HA.out,HD.out,e0,σ3,HE0.out,HV.out,rfl⟩)⟩,F8.st,F8.sp,F8.gr,(zZ5 hK8 hn9 (fun _ h=>h)).1 _ O9.out⟩)
    obtain⟨z0,z1,z2,z3,z4,z5,z6,z7,z8⟩:=zZ6 hB8
    refine bodyPost_ret (v:=.agg #[.int .i64 zk,.string ⟨zt.toArray⟩,.int .i64 zm,.string ⟨za.toArray⟩,.string ⟨zb.toArray⟩,.slice zAs zsubs.length zcs,.slice zAd zdecls.length zcd,.slice zAt ztail.length zct,.int .i64 zpos]) ?_ rfl HR.out
    simp[results,Tryz.results60,go_sem,z0,z1,z2,z3,z4,z5,z6,z7,z8]
end
def cloR (r br bd:Nat):Clo Bool where
 M _ b:=b=br∨b=bd
 At x w:=Blk w br 77 #[.pointer (some ⟨r,0,none⟩)]∧Blk w bd 4 #[.bool x]
 keep h hk hM:=⟨hk.blk h.1 (hM _ (.inl rfl)),hk.blk h.2 (hM _ (.inr rfl))⟩
 ct _:=0
def refA (t:Tx)(x:Int × Int × Option Nat)(pos:Int)(As:Option Addr)(cs:Nat)(subs:List EA):EA:=.mk 10 t x.2.1 (zP6 x.1) [] As cs subs none 0 [] none 0 [] pos
def RsC (R:RF)(U:UseR Bool):UseR Bool:=fun σ e x _ σ' e'=>match e with
 | .mk _ t _ _ _ _ _ _ _ _ _ _ _ _ pos=>match x.2.2 with
   | none=>σ'=σ∧e'=refA t x pos none 0 []
   | some b=>∃ σ1 e1 o,ResO R U σ b σ1 e1∧o∈σ1.ρ.objs∧o.blk=b∧
     ((16≤o.hgt∧σ'= {σ1 with x:=true}∧e'=refA t x pos none 0 [])∨(o.hgt < 16∧σ'=σ1∧∃ g,e'=refA t x pos (some ⟨g,0,none⟩) 1 [e1]))
def RsU (R:RF):Nat→UseR Bool
 | 0=>RsC R fun _ _ _ _ _ _=>False
 | n+1=>RsC R (RsU R n)
theorem yO9 {R:RF}{br bd:Nat}(hU:R.use=.func (.func 59) #[] #[.pointer (some ⟨br,0,none⟩),.pointer (some ⟨bd,0,none⟩)])
  (hc:∀ n U,RsvOk R (cloR R.r br bd) n U→yV7 R (cloR R.r br bd) n (RsC R U) 59 #[.pointer (some ⟨br,0,none⟩),.pointer (some ⟨bd,0,none⟩)]) :
  ∀ n,yV7 R (cloR R.r br bd) n (RsU R n) 59 #[.pointer (some ⟨br,0,none⟩),.pointer (some ⟨bd,0,none⟩)]
 | 0=>hc 0 _ (zB5 fun m e h=>by omega)
 | n+1=>hc (n+1) _ (zB5 fun m e h=>by
    obtain rfl:m=n:=by omega
    exact yE3 hU Tryz.call59 (yO9 hU hc m) e)
end Go.Proofs.YtdgehhgjgifikaaGreatDoor
