/- What the claim needs of:YU. -/
import Derived.Test.YtdgehhgjgifikaaGreatDoorN18
namespace Go.Proofs.YtdgehhgjgifikaaGreatDoor
open Go.RowKit
section
variable {X:Type}{R:RF}{C:Clo X}{n:Nat}{U:UseR X}
set_option maxRecDepth 100000 in
theorem zQ2 {o:Oper}{P:Program}{Q:Exit→Act→World→Prop}{K:Act→World→Prop}{W:World}{fs:List Fact}{G:Act→Prop}{A0:Act}(aa ab ac ad ae af ag ah ai aj ak al am an ao ap aq ar au av aw ax ay az aA aB aC aD aE aF aG aH aI aJ aK aL aM aN aO aP aQ aR aS aT aU aV aW aX aY aZ a0 a1 a2 a3 a4 a5 a6 a7 a8 a9 ba bb bc bd be bf bg bh bi bj bk bl bm bn bo bp bq br bs bt bu bv bw bx bz bA bB bC bD bE bF bG bH bI bJ bK bL bM bN bO bP bQ bR bS bT bU bV bW bX bY bZ b0 b1 b2 b3 b4 b5 b6 b7 b8 b9 ca cb cc cd ce cf cg ch ci cj ck cl cm cn co cp cq:Value)(hG:∀ A,o.wp P A W K Q→G A)(h:A0=Act.mk #[aa,ab,ac,ad,ae,af,ag,ah,ai,aj,ak,al,am,an,ao,ap,aq,ar,au,av,aw,ax,ay,az,aA,aB,aC,aD,aE,aF,aG,aH,aI,aJ,aK,aL,aM,aN,aO,aP,aQ,aR,aS,aT,aU,aV,aW,aX,aY,aZ,a0,a1,a2,a3,a4,a5,a6,a7,a8,a9,ba,bb,bc,bd,be,bf,bg,bh,bi,bj,bk,bl,bm,bn,bo,bp,bq,br,bs,b9,ca,cb,cc,cd,ce,cf,cg,ch,ci,cj,ck,cl,cm,cn,co,cp,cq,bM,bN,bO,bP,bQ,bR,bS,bT,bU,bV,bW,bX,bY,bZ,b0,b1,b2,b3,b4,b5,b6,b7,b8] []→o.wp P (Act.mk #[aa,ab,ac,ad,ae,af,ag,ah,ai,aj,ak,al,am,an,ao,ap,aq,ar,au,av,aw,ax,ay,az,aA,aB,aC,aD,aE,aF,aG,aH,aI,aJ,aK,aL,aM,aN,aO,aP,aQ,aR,aS,aT,aU,aV,aW,aX,aY,aZ,a0,a1,a2,a3,a4,a5,a6,a7,a8,a9,ba,bb,bc,bd,be,bf,bg,bh,bi,bj,bk,bl,bm,bn,bo,bp,bq,br,bs,b9,ca,cb,cc,cd,ce,cf,cg,ch,ci,cj,ck,cl,cm,cn,co,cp,cq,bM,bN,bO,bP,bQ,bR,bS,bT,bU,bV,bW,bX,bY,bZ,b0,b1,b2,b3,b4,b5,b6,b7,b8] []) W K Q):zX1 W (fun B=>A0=B→G B) [] fs (Act.put (Act.put (Act.put (Act.put (Act.put (Act.put (Act.put (Act.put (Act.put (Act.put (Act.put (Act.put (Act.put (Act.put (Act.put (Act.put (Act.put (Act.put (Act.mk #[aa,ab,ac,ad,ae,af,ag,ah,ai,aj,ak,al,am,an,ao,ap,aq,ar,au,av,aw,ax,ay,az,aA,aB,aC,aD,aE,aF,aG,aH,aI,aJ,aK,aL,aM,aN,aO,aP,aQ,aR,aS,aT,aU,aV,aW,aX,aY,aZ,a0,a1,a2,a3,a4,a5,a6,a7,a8,a9,ba,bb,bc,bd,be,bf,bg,bh,bi,bj,bk,bl,bm,bn,bo,bp,bq,br,bs,bt,bu,bv,bw,bx,bz,bA,bB,bC,bD,bE,bF,bG,bH,bI,bJ,bK,bL,bM,bN,bO,bP,bQ,bR,bS,bT,bU,bV,bW,bX,bY,bZ,b0,b1,b2,b3,b4,b5,b6,b7,b8] []) (some 79) b9) (some 80) ca) (some 81) cb) (some 82) cc) (some 83) cd) (some 84) ce) (some 85) cf) (some 86) cg) (some 87) ch) (some 88) ci) (some 89) cj) (some 90) ck) (some 91) cl) (some 92) cm) (some 93) cn) (some 94) co) (some 95) cp) (some 96) cq):=
 zM3 (by kernel_rfl) hG h
set_option maxRecDepth 100000 in
theorem zK8 {o:Oper}{P:Program}{Q:Exit→Act→World→Prop}{K:Act→World→Prop}{W:World}{fs:List Fact}{G:Act→Prop}{A0:Act}(aa ab ac ad ae af ag ah ai aj ak al am an ao ap aq ar au av aw ax ay az aA aB aC aD aE aF aG aH aI aJ aK aL aM aN aO aP aQ aR aS aT aU aV aW aX aY aZ a0 a1 a2 a3 a4 a5 a6 a7 a8 a9 ba bb bc bd be bf bg bh bi bj bk bl bm bn bo bp bq br bs bt bu bv bw bx bz bA bB bC bD bE bF bG bH bI bJ bK bL bM bN bO bP bQ bR bS bT bU bV bW bX bY bZ b0 b1 b2 b3 b4 b5 b6 b7 b8 b9 ca cb cc cd ce cf cg ch ci cj ck cl cm:Value)(hG:∀ A,o.wp P A W K Q→G A)(h:A0=Act.mk #[aa,ab,ac,ad,ae,af,ag,ah,ai,aj,ak,al,am,an,ao,ap,aq,ar,au,av,aw,ax,ay,az,aA,aB,aC,aD,aE,aF,aG,aH,aI,aJ,aK,aL,aM,aN,aO,aP,aQ,aR,aS,aT,aU,aV,aW,aX,aY,aZ,a0,a1,a2,a3,a4,a5,a6,a7,a8,a9,ba,bb,bc,bd,be,bf,bg,bh,bi,bj,bk,bl,bm,bn,bo,bp,bq,br,bs,bt,bu,bv,bw,bx,bz,bA,bB,bC,bD,bE,bF,bG,bH,bI,bJ,bK,bL,b9,ca,cb,cc,cd,ce,cf,cg,ch,ci,cj,ck,cl,cm,b0,b1,b2,b3,b4,b5,b6,b7,b8] []→o.wp P (Act.mk #[aa,ab,ac,ad,ae,af,ag,ah,ai,aj,ak,al,am,an,ao,ap,aq,ar,au,av,aw,ax,ay,az,aA,aB,aC,aD,aE,aF,aG,aH,aI,aJ,aK,aL,aM,aN,aO,aP,aQ,aR,aS,aT,aU,aV,aW,aX,aY,aZ,a0,a1,a2,a3,a4,a5,a6,a7,a8,a9,ba,bb,bc,bd,be,bf,bg,bh,bi,bj,bk,bl,bm,bn,bo,bp,bq,br,bs,bt,bu,bv,bw,bx,bz,bA,bB,bC,bD,bE,bF,bG,bH,bI,bJ,bK,bL,b9,ca,cb,cc,cd,ce,cf,cg,ch,ci,cj,ck,cl,cm,b0,b1,b2,b3,b4,b5,b6,b7,b8] []) W K Q):zX1 W (fun B=>A0=B→G B) [] fs (Act.put (Act.put (Act.put (Act.put (Act.put (Act.put (Act.put (Act.put (Act.put (Act.put (Act.put (Act.put (Act.put (Act.put (Act.mk #[aa,ab,ac,ad,ae,af,ag,ah,ai,aj,ak,al,am,an,ao,ap,aq,ar,au,av,aw,ax,ay,az,aA,aB,aC,aD,aE,aF,aG,aH,aI,aJ,aK,aL,aM,aN,aO,aP,aQ,aR,aS,aT,aU,aV,aW,aX,aY,aZ,a0,a1,a2,a3,a4,a5,a6,a7,a8,a9,ba,bb,bc,bd,be,bf,bg,bh,bi,bj,bk,bl,bm,bn,bo,bp,bq,br,bs,bt,bu,bv,bw,bx,bz,bA,bB,bC,bD,bE,bF,bG,bH,bI,bJ,bK,bL,bM,bN,bO,bP,bQ,bR,bS,bT,bU,bV,bW,bX,bY,bZ,b0,b1,b2,b3,b4,b5,b6,b7,b8] []) (some 97) b9) (some 98) ca) (some 99) cb) (some 100) cc) (some 101) cd) (some 102) ce) (some 103) cf) (some 104) cg) (some 105) ch) (some 106) ci) (some 107) cj) (some 108) ck) (some 109) cl) (some 110) cm):=
 zM3 (by kernel_rfl) hG h
set_option maxRecDepth 100000 in
set_option maxHeartbeats 16000000 in
theorem yQ9 (k:Int)(t:Tx)(m:Int)(a b:Tx)(As:Option Addr)(cs:Nat)(subs:List EA)(Ad:Option Addr)(cd:Nat)(decls:List DA)(At:Option Addr)(ct:Nat)(tail:List Tx)(pos:Int)(hk10:k≠10)(hsubs:∀ x∈subs,zP4 R C n U x)(hdecls:zR8 R C n U decls):zP4 R C n U (.mk k t m a b As cs subs Ad cd decls At ct tail pos):=by
 intro σ Im w s env v lp A c file hS hOk hE hK hne hlp hf hd hdl
 obtain⟨w1,hw1⟩:∃ w1,(w.alloc (.cells #[.int .i64 k,.string ⟨t.toArray⟩,.int .i64 m,.string ⟨a.toArray⟩,.string ⟨b.toArray⟩,.slice As subs.length cs,.slice Ad decls.length cd,.slice At tail.length ct,.int .i64 pos] 67)).alloc (.cells #[.int .i64 0,.string ⟨#[]⟩,.int .i64 0,.string ⟨#[]⟩,.string ⟨#[]⟩,.slice none 0 0,.slice none 0 0,.slice none 0 0,.int .i64 0] 67)=w1:=⟨_,rfl⟩
 have hb1:Below w.heap.size w w1:=by rw[←hw1];exact(((Below.refl w.heap.size w).alloc (Nat.le_refl _) _).alloc (by simp) _)
 have hz1:w1.heap.size=w.heap.size+1+1:=by rw[←hw1];simp
 obtain⟨vA,rfl⟩:∃ s,v=.pointer (some ⟨s,0,none⟩):=by
  cases env with
  | nil=>exact absurd rfl hne
  | cons x r=>exact⟨x.blk,hE.1.1⟩
 have X1:Ex0 R C n (s+wEs (subs.drop 0)+(bDs decls+vDs decls)) σ Im w #[.int .i64 k,.string ⟨t.toArray⟩,.int .i64 m,.string ⟨a.toArray⟩,.string ⟨b.toArray⟩,.slice As subs.length cs,.slice Ad decls.length cd,.slice At tail.length ct,.int .i64 pos] #[.int .i64 0,.string ⟨#[]⟩,.int .i64 0,.string ⟨#[]⟩,.string ⟨#[]⟩,.slice none 0 0,.slice none 0 0,.slice none 0 0,.int .i64 0] (.mk k t m a b As cs subs Ad cd decls At ct tail pos) env (.pointer (some ⟨vA,0,none⟩)) lp A σ Im w1:=by
  have hkN:Kp (fun _=>False) w w1:=Kp.ofBelow hb1 _
  refine⟨(Fr.start (hS.less ?_ (Nat.le_refl _))).below hb1,?_,?_,hS.zo.new_ (Nat.le_refl _) (by omega),hS.zo.new_ (by omega) (by omega),(zZ5 hkN (fun _ _ h=>h) (fun _ h=>h)).1 _ hOk,hE.kept hkN (fun _ _ h=>h) (fun _ h=>h),hK,hlp.kept hkN (fun _ _ h=>h) (fun _ h=>h)⟩
  ·rw[wE,List.drop_zero]
   omega
  ·rw[←hw1]
   exact(Blk.new w _ _).alloc _
  ·rw[←hw1]
   have:=Blk.new (w.alloc (.cells #[.int .i64 k,.string ⟨t.toArray⟩,.int .i64 m,.string ⟨a.toArray⟩,.string ⟨b.toArray⟩,.slice As subs.length cs,.slice Ad decls.length cd,.slice At tail.length ct,.int .i64 pos] 67)) 67 #[.int .i64 0,.string ⟨#[]⟩,.int .i64 0,.string ⟨#[]⟩,.string ⟨#[]⟩,.slice none 0 0,.slice none 0 0,.slice none 0 0,.int .i64 0]
   rw[World.size_alloc] at this
   exact this
 have HSz:=Lib.hid (show w.heap.size+2≤w1.heap.size from by omega)
 have hls:=hOk.2.1.2.1
 have HA':=Lib.hid hOk.1.2.1
 have HB':=Lib.hid hOk.1.2.2
 have HF:=Lib.hid hf
 have HNe:=Lib.hid hne
 have HSub:=Lib.hid hsubs
 have HDec:=Lib.hid hdecls
 rw[hE_mk] at hd hdl
 have HD1:=Lib.hid (show env.length+hEs subs≤1000∧env.length+1+hDs decls≤1000 from by omega)
 have HD2:=Lib.hid (show lp.length+2+2*hEs subs≤1000000∧lp.length+2*hDs decls≤1000000 from by omega)
 have HVis:=Lib.hid (show ∀ σ1 subs' σ2 env2 decls' As' cs' Ad' cd' At' ct' σ',zW1 R U subs 0 (if k=15 then[a,b] else[]) env lp file σ σ1 subs'→(k=13∧Dcl decls file env σ1 σ2 env2∨k≠13∧σ2=σ1∧env2=env)→zX7 R U decls env2 (if k=13 then[] else lp) file σ2 σ' decls'→VisE R U (.mk k t m a b As cs subs Ad cd decls At ct tail pos) env lp file σ σ' (.mk k t m a b As' cs' subs' Ad' cd' decls' At' ct' tail pos) from fun σ1 subs' σ2 env2 decls' As' cs' Ad' cd' At' ct' σ' h1 h2 h3=>by
  rw[VisE]
  exact .inr ⟨hk10,σ1,subs',σ2,env2,decls',As',cs',Ad',cd',At',ct',h1,h2,h3,rfl⟩)
 clear hS hOk hE hK hne hlp hf hd hdl hsubs hdecls hb1
 change Calls Tryz.prog 93 #[.pointer (some ⟨R.r,0,none⟩),.agg #[.int .i64 k,.string ⟨t.toArray⟩,.int .i64 m,.string ⟨a.toArray⟩,.string ⟨b.toArray⟩,.slice As subs.length cs,.slice Ad decls.length cd,.slice At tail.length ct,.int .i64 pos],.pointer (some ⟨vA,0,none⟩),.slice A lp.length c,.int .i64 (file:Nat)] w _
 go_enter Tryz.func93,Tryz.ntmps93
 go_upto_region 1 with fail
 clear hw1
 obtain⟨e0,e1,e2,e3,e4,e5,e6,e7,e8⟩:=zZ6 X1.he
 have hb10:(k == 10)=false:=by simp only[beq_eq_false_iff_ne,ne_eq];exact hk10
 go_upto_region 4 with fail
 have X1':=Lib.hid X1
 clear e0 e1 e2 e3 e4 e5 e6 e7 e8
 clear X1
 obtain⟨e0,e1,e2,e3,e4,e5,e6,e7,e8⟩:=zZ6 X1'.out.he
 go_wp2
 clear e0 e1 e2 e3 e4 e5 e6 e7 e8
 go_loopw [13,40] (fun vS iv wr=>∃ (i:Nat) (σi:GS X) (Imi:Nat→Prop) (l':List EA) (AS:Option Addr) (cS:Nat),i≤subs.length∧iv=.int .i64 (i:Nat)∧vS=.slice AS i cS∧Hid (l'.length=i)∧Hid (Ex0 R C n (s+wEs (subs.drop i)+(bDs decls+vDs decls)) σ Im w #[.int .i64 k,.string ⟨t.toArray⟩,.int .i64 m,.string ⟨a.toArray⟩,.string ⟨b.toArray⟩,.slice As subs.length cs,.slice Ad decls.length cd,.slice At tail.length ct,.int .i64 pos] #[.int .i64 0,.string ⟨#[]⟩,.int .i64 0,.string ⟨#[]⟩,.string ⟨#[]⟩,.slice none 0 0,.slice none 0 0,.slice none 0 0,.int .i64 0] (.mk k t m a b As cs subs Ad cd decls At ct tail pos) env (.pointer (some ⟨vA,0,none⟩)) lp A σi Imi wr)∧Hid (RowE R C w (.slice AS i cS) l' σi Imi wr)∧Hid (zW1 R U (subs.take i) 0 (if k=15 then[a,b] else[]) env lp file σ σi l')∧Hid (w.heap.size+2≤wr.heap.size)) (fun _ iv _=>subs.length-(intOf iv).toNat)
 case atStart=>exact⟨0,σ,Im,[],none,0,Nat.zero_le _,rfl,rfl,Lib.hid rfl,X1',Lib.hid RowE.nil_,Lib.hid (by rw[List.take_zero,zW1];exact⟨rfl,rfl⟩),HSz⟩
 case round=>
  obtain⟨i,σi,Imi,l',AS,cS,hi,rfl,rfl,HL,Xi,Ri,Vi,Zi⟩:=hrel
  obtain⟨e0,e1,e2,e3,e4,e5,e6,e7,e8⟩:=zZ6 Xi.out.he
  by_cases hlt:i < subs.length
  ·have hlt':(i:Int) < (subs.length:Int):=by omega
   have HM:=Lib.hid (List.getElem_mem hlt)
   have HTk:=Lib.hid (List.take_succ_eq_append_getElem hlt)
   have HDr:=Lib.hid (List.drop_eq_getElem_cons hlt)
   have HIx:=Lib.hid (OkIs.at_ Xi.out.tr.2.2.1 (List.getElem_mem hlt))
   obtain⟨bb,off,hA,hbW,hc⟩:=Xi.out.tr.2.1.1.at_ hlt
   generalize subs[i]=x at hc HM HTk HDr HIx
   obtain⟨xk,xt,xn,xa,xb,xAs,xcs,xsubs,xAd,xcd,xdecls,xAt,xct,xtail,xpos⟩:=x
   have c0:=hc 0 _ rfl
   have c1:=hc 1 _ rfl
   have c2:=hc 2 _ rfl
   have c3:=hc 3 _ rfl
   have c4:=hc 4 _ rfl
   have c5:=hc 5 _ rfl
   have c6:=hc 6 _ rfl
   have c7:=hc 7 _ rfl
   have c8:=hc 8 _ rfl
   simp only[Nat.add_zero] at c0
   clear hc
   rw[hA] at e5
   have hba:=(Below.refl wr.heap.size wr).alloc (Nat.le_refl _) (.cells #[.int .i64 xk,.string ⟨xt.toArray⟩,.int .i64 xn,.string ⟨xa.toArray⟩,.string ⟨xb.toArray⟩,.slice xAs xsubs.length xcs,.slice xAd xdecls.length xcd,.slice xAt xtail.length xct,.int .i64 xpos] 67)
   have Xb:=Lib.hid (Xi.out.below hba)
   have Rb:=Lib.hid (Ri.out.below hba)
   have Bb:=Lib.hid (Blk.new wr 67 #[.int .i64 xk,.string ⟨xt.toArray⟩,.int .i64 xn,.string ⟨xa.toArray⟩,.string ⟨xb.toArray⟩,.slice xAs xsubs.length xcs,.slice xAd xdecls.length xcd,.slice xAt xtail.length xct,.int .i64 xpos])
   have Ib:=Lib.hid ((zZ5 (N:=fun _=>False) (Kp.ofBelow hba _) (fun _ _ h=>h) (fun _ h=>h)).1 _ HIx.out)
   have Zb:=Lib.hid (show w.heap.size+2≤wr.heap.size∧wr.heap.size < (wr.alloc (.cells #[.int .i64 xk,.string ⟨xt.toArray⟩,.int .i64 xn,.string ⟨xa.toArray⟩,.string ⟨xb.toArray⟩,.slice xAs xsubs.length xcs,.slice xAd xdecls.length xcd,.slice xAt xtail.length xct,.int .i64 xpos] 67)).heap.size∧Mine (zn R C σi Imi) (wr.alloc (.cells #[.int .i64 xk,.string ⟨xt.toArray⟩,.int .i64 xn,.string ⟨xa.toArray⟩,.string ⟨xb.toArray⟩,.slice xAs xsubs.length xcs,.slice xAd xdecls.length xcd,.slice xAt xtail.length xct,.int .i64 xpos] 67)) wr.heap.size from⟨Zi.out,by simp,Xi.out.fr.st.zo.new_ (Nat.le_refl _) (by simp)⟩)
   go_upto_region 8 with fail
   clear e0 e1 e2 e3 e4 e5 e6 e7 e8
   clear c0 c1 c2 c3 c4 c5 c6 c7 c8 hA hbW hba
   generalize wr.alloc (.cells #[.int .i64 xk,.string ⟨xt.toArray⟩,.int .i64 xn,.string ⟨xa.toArray⟩,.string ⟨xb.toArray⟩,.slice xAs xsubs.length xcs,.slice xAd xdecls.length xcd,.slice xAt xtail.length xct,.int .i64 xpos] 67)=wb at Xb Rb Bb Ib Zb ⊢
   go_upto_region 9 with fail
   obtain⟨bq,hbq⟩:∃ bq,bq=decide (k=15∧0 < i):=⟨_,rfl⟩
   have HBq:=Lib.hid hbq
   clear hbq
   go_cut [52] from 46 to 51 (fun cv wx=>cv=.bool bq∧wx=wb)
   case first=>
    obtain⟨e0,e1,e2,e3,e4,e5,e6,e7,e8⟩:=zZ6 Xb.out.he
    cases h15:(k == 15)
    ·go_wp2_with fail
     go_meet
     case rel=>exact⟨by rw[HBq.out];simp at h15;simp[h15],rfl⟩
    ·go_wp2_with fail
     go_meet
     case rel=>exact⟨by rw[HBq.out];simp at h15;simp[h15],rfl⟩
   obtain⟨rfl,rfl⟩:=hcut
   go_upto_if 52 with fail
   go_cut [16] from 53 to 57 (fun cv wx=>∃ (Im2:Nat→Prop) (A2:Option Addr) (n2 c2:Nat),cv=.slice A2 n2 c2∧Hid (n2=(lp++if i=0 then[] else(if k=15 then[a,b] else[])).length)∧Hid (Ex0 R C n (s+wEs (subs.drop i)+(bDs decls+vDs decls)) σ Im w #[.int .i64 k,.string ⟨t.toArray⟩,.int .i64 m,.string ⟨a.toArray⟩,.string ⟨b.toArray⟩,.slice As subs.length cs,.slice Ad decls.length cd,.slice At tail.length ct,.int .i64 pos] #[.int .i64 0,.string ⟨#[]⟩,.int .i64 0,.string ⟨#[]⟩,.string ⟨#[]⟩,.slice none 0 0,.slice none 0 0,.slice none 0 0,.int .i64 0] (.mk k t m a b As cs subs Ad cd decls At ct tail pos) env (.pointer (some ⟨vA,0,none⟩)) lp A σi Im2 wx)∧Hid (RowE R C w (.slice AS i cS) l' σi Im2 wx)∧Hid (SlI Im2 wx 1 encS A2 (lp++if i=0 then[] else(if k=15 then[a,b] else[])))∧Hid (Blk wx wr.heap.size 67 #[.int .i64 xk,.string ⟨xt.toArray⟩,.int .i64 xn,.string ⟨xa.toArray⟩,.string ⟨xb.toArray⟩,.slice xAs xsubs.length xcs,.slice xAd xdecls.length xcd,.slice xAt xtail.length xct,.int .i64 xpos])∧Hid (OkI Im2 wx (.mk xk xt xn xa xb xAs xcs xsubs xAd xcd xdecls xAt xct xtail xpos))∧Hid (Mine (zn R C σi Im2) wx wr.heap.size))
   case first=>
    cases bq
    ·have HNm:=Lib.hid (show (lp++if i=0 then[] else(if k=15 then[a,b] else[]))=lp from by
      have h:=of_decide_eq_false HBq.out.symm
      by_cases h0:i=0
      ·rw[if_pos h0];simp
      ·rw[if_neg h0,if_neg (fun h2=>h ⟨h2,by omega⟩)];simp)
     go_wp2_with fail
     go_meet
     case rel=>exact⟨Imi,A,_,c,rfl,Lib.hid (by rw[HNm.out]),Xb,Rb,Lib.hid (by rw[HNm.out];exact Xb.out.lp),Bb,Ib,Lib.hid Zb.out.2.2⟩
    ·have HNm:=Lib.hid (show (lp++if i=0 then[] else(if k=15 then[a,b] else[]))=lp++ [a,b] from by
      have h:=of_decide_eq_true HBq.out.symm
      rw[if_neg (by omega),if_pos h.1])
     obtain⟨e0,e1,e2,e3,e4,e5,e6,e7,e8⟩:=zZ6 Xb.out.he
     have hd2:=HD2.out
     go_wp2_with fail
     have hbL:=(Below.refl wc.heap.size wc).alloc (Nat.le_refl _) (.cells #[.slice A lp.length c,.slice (some ⟨w.heap.size,3,none⟩) 2 2] 44)
     have hsL:(wc.alloc (.cells #[.slice A lp.length c,.slice (some ⟨w.heap.size,3,none⟩) 2 2] 44)).heap.size=wc.heap.size+1:=by simp
     have cN:=yY0 wc.heap.size 44 A c lp (some ⟨w.heap.size,3,none⟩) 2 [a,b] (wc.alloc (.cells #[.slice A lp.length c,.slice (some ⟨w.heap.size,3,none⟩) 2 2] 44)) (Blk.new wc _ _) ((Xb.out.lp.1.below hbL).more hbL.size) (sl_two (Xb.out.he.alloc _) (zY3 hbL e3) (zY3 hbL e4)) (by omega) (by simp) (by simp)
     refine cN.mono ?_
     rintro e w5 ⟨A2,c2,rfl,hS5,hb5,hn5⟩
     have hb6:Below wc.heap.size wc w5:=hbL.trans (hb5.mono hbL.size)
     have hF5:∀ q,(∃ ad,A2=some ad∧ad.block=q)→Mine (zn R C σi Imi) w5 q∧wc.heap.size≤q:=fun q ⟨ad,h1,h2⟩=>by
      have h3:=hn5 ad h1
      rw[hsL] at h3
      have h4:ad.block < w5.heap.size:=by
       rcases hS5.1 with h5 | ⟨b5,o5,h5,h6,_⟩
       ·simp at h5
       ·rw[h1] at h5
        injection h5 with h5
        rw[h5]
        exact h6
      rw[h2] at h3 h4
      exact⟨Xb.out.fr.st.zo.new_ (by omega) h4,by omega⟩
     have hZb:=Zb.out
     have X6:=(Xb.out.below hb6).freeze (F:=fun q=>∃ ad,A2=some ad∧ad.block=q) fun q hq=>⟨(hF5 q hq).1,by have:=(hF5 q hq).2;omega⟩
     have R6:=(Rb.out.below hb6).freeze (F:=fun q=>∃ ad,A2=some ad∧ad.block=q) fun q hq hq2=>by
      have h7:=(hF5 q hq2).2
      have h8:=(Rb.out.ma q hq).1.1
      omega
     have HC:=Lib.hid (show ∃ (Im2:Nat→Prop) (A':Option Addr) (n2 c':Nat),Value.slice A2 (lp++ [a,b]).length c2=.slice A' n2 c'∧Hid (n2=(lp++if i=0 then[] else(if k=15 then[a,b] else[])).length)∧Hid (Ex0 R C n (s+wEs (subs.drop i)+(bDs decls+vDs decls)) σ Im w #[.int .i64 k,.string ⟨t.toArray⟩,.int .i64 m,.string ⟨a.toArray⟩,.string ⟨b.toArray⟩,.slice As subs.length cs,.slice Ad decls.length cd,.slice At tail.length ct,.int .i64 pos] #[.int .i64 0,.string ⟨#[]⟩,.int .i64 0,.string ⟨#[]⟩,.string ⟨#[]⟩,.slice none 0 0,.slice none 0 0,.slice none 0 0,.int .i64 0] (.mk k t m a b As cs subs Ad cd decls At ct tail pos) env (.pointer (some ⟨vA,0,none⟩)) lp A σi Im2 w5)∧Hid (RowE R C w (.slice AS i cS) l' σi Im2 w5)∧Hid (SlI Im2 w5 1 encS A' (lp++if i=0 then[] else(if k=15 then[a,b] else[])))∧Hid (Blk w5 wr.heap.size 67 #[.int .i64 xk,.string ⟨xt.toArray⟩,.int .i64 xn,.string ⟨xa.toArray⟩,.string ⟨xb.toArray⟩,.slice xAs xsubs.length xcs,.slice xAd xdecls.length xcd,.slice xAt xtail.length xct,.int .i64 xpos])∧Hid (OkI Im2 w5 (.mk xk xt xn xa xb xAs xcs xsubs xAd xcd xdecls xAt xct xtail xpos))∧Hid (Mine (zn R C σi Im2) w5 wr.heap.size) from
      ⟨_,A2,_,c2,rfl,Lib.hid (by rw[HNm.out]),Lib.hid X6,Lib.hid R6,Lib.hid (by rw[HNm.out];exact⟨hS5.1,by rw[List.length_append,List.length_cons,List.length_cons,List.length_nil];omega,.inr fun ad had=>.inr ⟨ad,had,rfl⟩⟩),Lib.hid (Bb.out.keep hb6),
       Lib.hid ((zZ5 (N:=fun _=>False) (Kp.ofBelow hb6 _) (fun _ _ h=>h) (fun _ h=>.inl h)).1 _ Ib.out),Lib.hid ⟨Nat.lt_of_lt_of_le hZb.2.1 hb6.size,hZb.2.2.2.1,fun hh=>hh.elim hZb.2.2.2.2 fun h4=>by have:=(hF5 _ h4).2;omega⟩⟩)
     clear cN hS5 hb5 hn5 hb6 hF5 X6 R6 hbL hsL e0 e1 e2 e3 e4 e5 e6 e7 e8
     generalize hn2:(lp++ [a,b]).length=nn2 at HC
     go_wp2_with fail
     go_meet
     case rel=>exact HC.out
   obtain⟨Im2,A2,n2,c2,rfl,HN2,X2,R2,L2,B2,I2,M2⟩:=hcut
   obtain⟨lp2,hlp2⟩:∃ lp2,lp2=(lp++if i=0 then[] else(if k=15 then[a,b] else[])):=⟨_,rfl⟩
   have HLp:=Lib.hid hlp2
   rw[←hlp2] at HN2 L2
   obtain rfl:=HN2.out
   have hlen2:lp2.length≤lp.length+2:=by
    rw[hlp2,List.length_append]
    split
    ·simp
    ·split <;> simp
   clear hlp2 HN2
   have hwd:wEs (subs.drop i)=wE (.mk xk xt xn xa xb xAs xcs xsubs xAd xcd xdecls xAt xct xtail xpos)+wEs (subs.drop (i+1)):=by rw[HDr.out,wEs]
   have hhx:hE (.mk xk xt xn xa xb xAs xcs xsubs xAd xcd xdecls xAt xct xtail xpos)≤hEs subs:=hE_le HM.out
   have cX:=HSub.out (.mk xk xt xn xa xb xAs xcs xsubs xAd xcd xdecls xAt xct xtail xpos) HM.out σi Im2 wc (s+wEs (subs.drop (i+1))+(bDs decls+vDs decls)) env (.pointer (some ⟨vA,0,none⟩)) lp2 A2 c2 file (X2.out.fr.st.less (by omega) (Nat.le_refl _)) I2.out X2.out.en X2.out.kn HNe.out L2.out HF.out (by have:=HD1.out;omega) (by have:=HD2.out;omega)
   have XC:=Lib.hid cX
   have x2:=zZ6 B2.out
   obtain⟨q0,q1,q2,q3,q4,q5,q6,q7,q8⟩:=x2
   clear cX
   go_wp2_with fail
   refine XC.out.mono ?_
   rintro e w3 ⟨σ',Im3,e',rfl,hV3,hS3,hQ3,hG3,hO3⟩
   have X3:=Lib.hid ((X2.out.less (s':=s+wEs (subs.drop (i+1))+(bDs decls+vDs decls)) (by omega)).step hS3 hQ3 hG3)
   have R3:=Lib.hid (R2.out.step X2.out.fr.st.zo hQ3)
   have V3:=Lib.hid hV3
   have O3:=Lib.hid hO3
   have Z3:=Lib.hid (show w.heap.size+2≤w3.heap.size from by have h1:=X3.out.fr.sp.kp.size;have h2:=X3.out.mz.1;omega)
   have hl1:l'.length=i:=HL.out
   clear XC hV3 hS3 hQ3 hG3 hO3 q0 q1 q2 q3 q4 q5 q6 q7 q8 hwd hhx hlen2 X2 R2 L2 B2 I2 M2
   cases e' with
   | mk yk yt yn ya yb yAs ycs ysubs yAd ycd ydecls yAt yct ytail ypos=>
     dsimp only[encE]
     go_wp2_with (at_builtin;refine zU1 _ rfl (.tmp 58) (.tmp 65) 65 rfl 0 67 9 144 elExpr _ _ _ rfl (R3.out.ac.alloc _) _ 1 _ _ rfl (Src.lit _ 9 _ _ 1 rfl) (by simp[Value.oneCell']) (by simp only[maxLen];omega) (by omega) (Nat.zero_le _) ?_;intro v' w4 hacc' hg' _ _ hob')
     obtain⟨R4,hK4⟩:=R3.out.app X3.out.fr.st.zo Z3.out O3.out (by simpa[encE] using hacc') hg' hob'
     have X4:=X3.out.write hK4 fun q hq=>R3.out.ma q hq
     obtain⟨A4,c4,hv4⟩:=hacc'.shape
     subst hv4
     refine⟨⟨i+1,σ',Im3,l'++ [.mk yk yt yn ya yb yAs ycs ysubs yAd ycd ydecls yAt yct ytail ypos],A4,c4,by omega,by go_num,by rw[HL.out],Lib.hid (by rw[List.length_append,HL.out];rfl),Lib.hid X4,Lib.hid (by rw[←hl1];exact R4),Lib.hid ?_,Lib.hid (Nat.le_trans Z3.out hK4.size)⟩,by simp[intOf];omega⟩
     rw[HTk.out]
     refine zG0 Vi.out ?_
     have e0:(0+(subs.take i).length=0)=(i=0):=by rw[List.length_take];simp only[Nat.zero_add];rw[Nat.min_eq_left hi]
     simp only[e0]
     rw[←HLp.out]
     exact V3.out
  ·obtain rfl:i=subs.length:=by omega
   have X4:=Xi.out.less (s':=s+(bDs decls+vDs decls)) (by omega)
   have V4:=Lib.hid (show zW1 R U subs 0 (if k=15 then[a,b] else[]) env lp file σ σi l' from by have:=Vi.out;rw[List.take_length] at this;exact this)
   have S5:=(show RowE R C w (.slice AS l'.length cS) l' σi Imi wr from by rw[HL.out];exact Ri.out).res (by rw[HL.out];exact hls)
   rw[HL.out] at S5
   have X5:=X4.freeze (F:=fun q=>(Value.slice AS subs.length cS).ownBlock=some q) fun q hq=>Ri.out.ma q hq
   go_upto_region 13 with fail
   clear e0 e1 e2 e3 e4 e5 e6 e7 e8
   obtain⟨e0,e1,e2,e3,e4,e5,e6,e7,e8⟩:=zZ6 X5.he
   have f5:=X5.he.free 5
   obtain⟨Im5,hIm5⟩:∃ Im5:Nat→Prop,Im5=fun b=>Imi b∨(Value.slice AS subs.length cS).ownBlock=some b:=⟨_,rfl⟩
   rw[←hIm5] at X5 S5
   have X6:=(X5.setE 5 (.slice AS subs.length cS)).cast (E':=#[.int .i64 k,.string ⟨t.toArray⟩,.int .i64 m,.string ⟨a.toArray⟩,.string ⟨b.toArray⟩,.slice AS subs.length cS,.slice Ad decls.length cd,.slice At tail.length ct,.int .i64 pos]) (by simp)
   have S6:=Lib.hid (S5.kept (wy:=wr.setCell ⟨w.heap.size,5,none⟩ (.slice AS subs.length cS)) ((Kp.refl (· = w.heap.size) wr).setCell (p:=⟨w.heap.size,5,none⟩) rfl _) (fun q hq e=>X5.me.2.2 (e▸hq)) (fun _ h=>h))
   clear X4 S5 hIm5 Xi Ri Vi Zi
   go_upto_region 14 with fail
   clear e0 e1 e2 e3 e4 e5 e6 e7 e8
   clear f5 X5
   generalize wr.setCell ⟨w.heap.size,5,none⟩ (.slice AS subs.length cS)=w6 at X6 S6 ⊢
   obtain⟨e0,e1,e2,e3,e4,e5,e6,e7,e8⟩:=zZ6 X6.he
   have cT:=zL1 At ct tail w6 X6.tr.2.2.2.2.2.n
   have X6':=Lib.hid X6
   have f7:=X6.he.free 7
   clear X6
   go_wp2_with fail
   refine cT.mono ?_
   rintro e w7 ⟨A7,c7,rfl,hS7,hb7,hn7⟩
   have hF7:∀ q,(tail≠[]∧∃ ad,A7=some ad∧ad.block=q)→Mine (zn R C σi Im5) w7 q∧w6.heap.size≤q:=fun q ⟨hnt,ad,h1,h2⟩=>by
    have h3:=hn7 ad h1
    have h4:ad.block < w7.heap.size:=by
     rcases hS7.1 with h5 | ⟨b5,o5,h5,h6,_⟩
     ·exact absurd h5 hnt
     ·rw[h1] at h5
      injection h5 with h5
      rw[h5]
      exact h6
    rw[h2] at h3 h4
    exact⟨X6'.out.fr.st.zo.new_ h3 h4,h3⟩
   have hz6:w.heap.size+2≤w6.heap.size:=by
    have h1:=X6'.out.fr.sp.kp.size
    have h2:=X6'.out.mz.1
    omega
   have htl:tail.length≤1048576:=X6'.out.tr.2.2.2.2.2.2.1
   have X8:=(X6'.out.below hb7).freeze (F:=fun q=>tail≠[]∧∃ ad,A7=some ad∧ad.block=q) fun q hq=>⟨(hF7 q hq).1,by have:=(hF7 q hq).2;omega⟩
   have S8:ResE AS l' A7 tail (fun q=>Im5 q∨(tail≠[]∧∃ ad,A7=some ad∧ad.block=q)) w7:=by
    have h1:=S6.out.kept (N:=fun _=>False) (Kp.ofBelow hb7 _) (fun _ _ h=>h) (fun q (h:Im5 q)=>(Or.inl h:Im5 q∨(tail≠[]∧∃ ad,A7=some ad∧ad.block=q)))
    refine⟨h1.sl,h1.ok,hS7.1,htl,?_⟩
    by_cases hnt:tail=[]
    ·exact .inl hnt
    ·exact .inr fun ad had=>.inr ⟨hnt,ad,had,rfl⟩
   obtain⟨Im8,hIm8⟩:∃ Im8:Nat→Prop,Im8=fun q=>Im5 q∨(tail≠[]∧∃ ad,A7=some ad∧ad.block=q):=⟨_,rfl⟩
   rw[←hIm8] at X8 S8
   have X9:=(X8.setE 7 (.slice A7 tail.length c7)).cast (E':=#[.int .i64 k,.string ⟨t.toArray⟩,.int .i64 m,.string ⟨a.toArray⟩,.string ⟨b.toArray⟩,.slice AS subs.length cS,.slice Ad decls.length cd,.slice A7 tail.length c7,.int .i64 pos]) (by simp)
   have S9:=Lib.hid (S8.kept (wy:=w7.setCell ⟨w.heap.size,7,none⟩ (.slice A7 tail.length c7)) ((Kp.refl (· = w.heap.size) w7).setCell (p:=⟨w.heap.size,7,none⟩) rfl _) (fun q hq e=>X8.me.2.2 (e▸hq)) (fun _ h=>h))
   clear hIm8 hF7 S8 cT S6 X6' hS7 hn7 hz6 f7
   clear e0 e1 e2 e3 e4 e5 e6 e7 e8
   obtain⟨e0,e1,e2,e3,e4,e5,e6,e7,e8⟩:=zZ6 X8.he
   have f7:=X8.he.free 7
   clear X8 hb7
   go_upto_region 15 with fail
   clear e0 e1 e2 e3 e4 e5 e6 e7 e8
   clear f7
   generalize w7.setCell ⟨w.heap.size,7,none⟩ (.slice A7 tail.length c7)=w9 at X9 S9 ⊢
   obtain⟨e0,e1,e2,e3,e4,e5,e6,e7,e8⟩:=zZ6 X9.he
   obtain⟨b13,hb13⟩:∃ b13,(k == 13)=b13:=⟨_,rfl⟩
   have H13:=Lib.hid hb13
   go_upto_if 76 with fail
   clear hb13
   clear e0 e1 e2 e3 e4 e5 e6 e7 e8
   have HX9:=Lib.hid X9
   clear X9
   go_cut [2,3] from 77 to 110 (fun v2 v3 wx=>∃ (σ2:GS X) (Im9:Nat→Prop) (env2:List ScA) (vB:Nat) (lp3:List Tx) (A3:Option Addr) (n3 c3:Nat),v2=.pointer (some ⟨vB,0,none⟩)∧v3=.slice A3 n3 c3∧Hid (n3=lp3.length)∧Hid (lp3=if k=13 then[] else lp)∧
    Hid (Ex0 R C n (s+vDs decls) σ Im w #[.int .i64 k,.string ⟨t.toArray⟩,.int .i64 m,.string ⟨a.toArray⟩,.string ⟨b.toArray⟩,.slice AS subs.length cS,.slice Ad decls.length cd,.slice A7 tail.length c7,.int .i64 pos] #[.int .i64 0,.string ⟨#[]⟩,.int .i64 0,.string ⟨#[]⟩,.string ⟨#[]⟩,.slice none 0 0,.slice none 0 0,.slice none 0 0,.int .i64 0] (.mk k t m a b As cs subs Ad cd decls At ct tail pos) env2 (.pointer (some ⟨vB,0,none⟩)) lp3 A3 σ2 Im9 wx)∧Hid (ResE AS l' A7 tail Im9 wx)∧Hid (env2≠[]∧env2.length+hDs decls≤1000)∧Hid (k=13∧Dcl decls file env σi σ2 env2∨k≠13∧σ2=σi∧env2=env))
   case first=>
    cases b13
    ·go_wp2_with fail
     go_meet
     case rel=>
      have hk13:k≠13:=by have:=H13.out;simpa using this
      exact⟨σi,Im8,env,vA,lp,A,_,c,rfl,rfl,Lib.hid rfl,Lib.hid (by rw[if_neg hk13]),Lib.hid (HX9.out.less (by omega)),S9,Lib.hid ⟨HNe.out,by have:=HD1.out;omega⟩,Lib.hid (.inr ⟨hk13,rfl,rfl⟩)⟩
    ·have hk13:k=13:=by have:=H13.out;simpa using this
     have HK13:=Lib.hid hk13
     obtain⟨xe,re,henv⟩:∃ x r,env=x ::r:=by
      cases hq:env with
      | nil=>exact absurd hq HNe.out
      | cons x r=>exact⟨x,r,rfl⟩
     have HEnv:=Lib.hid henv
     have hen:=HX9.out.en.1
     rw[henv] at hen
     obtain⟨hvx,_,_,_,_,_,_,ov,hBx,_⟩:=hen
     have hvA:vA=xe.blk:=by injection hvx with h;injection h with h;injection h
     have cO:=yA5 vA (.map (some xe.bF)) (.map (some xe.bL)) ov (re.length:Nat) w9 (by rw[hvA];exact hBx) (by omega) (by have:=HD1.out;rw[henv] at this;simp at this;omega)
     clear hvx hBx hvA henv hk13
     go_wp2_with fail
     refine cO.mono ?_
     rintro e w10 ⟨rfl,hb10,hz10,hS10,hF10,hL10⟩
     have X10:=HX9.out.below hb10
     have S10:=S9.out.kept (N:=fun _=>False) (Kp.ofBelow hb10 _) (fun _ _ h=>h) (fun _ h=>h)
     have cD0:=zD7 (w9.heap.size+2) w9.heap.size (w9.heap.size+1) file w9.heap.size (.pointer (some ⟨vA,0,none⟩)) ((re.length:Nat)+1) Ad cd decls [] [] w10.drew (Blk.keep hS10 (Below.refl _ _).drew) (OMap.below hF10 (Below.refl _ _).drew) (OMap.below hL10 (Below.refl _ _).drew) ((HX9.out.tr.2.2.2.1.n.below hb10).below (Below.refl _ _).drew) ((zX8 (Below.refl _ _).drew).2.2.2 _ ((zX8 hb10).2.2.2 _ ((yA7).2.2.2 _ HX9.out.tr.2.2.2.2.1))) (Nat.le_refl _) (by omega) (by omega) (by simp) (by simp) (by simp)
     have H10:=Lib.hid (show w9.heap.size < w10.heap.size∧w10.heap.size=w9.heap.size+3∧Below w9.heap.size w9 w10.drew∧Blk w10.drew (w9.heap.size+2) 122 #[.map (some w9.heap.size),.map (some (w9.heap.size+1)),.pointer (some ⟨vA,0,none⟩),.int .i64 ((re.length:Nat)+1)] from⟨by omega,hz10,hb10.drew,Blk.keep hS10 (Below.refl _ _).drew⟩)
     have X11:=Lib.hid (X10.below (Below.refl _ _).drew)
     have S11:=Lib.hid (S10.kept (N:=fun _=>False) (Kp.ofBelow (Below.refl w10.heap.size w10).drew _) (fun _ _ h=>h) (fun _ h=>h))
     clear hb10 hz10 hS10 hF10 hL10 X10 S10 cO
     go_upto_region 17 with fail
     obtain⟨w11,hw11⟩:∃ w11,w10.drew=w11:=⟨_,rfl⟩
     rw[hw11] at X11 S11 H10 cD0
     obtain⟨e0,e1,e2,e3,e4,e5,e6,e7,e8⟩:=zZ6 X11.out.he
     have r6:=X11.out.fr.st.rs.rc.cell 6
     have hzr:R.r < w11.heap.size:=X11.out.fr.st.rs.rl
     have hnr:¬ (R.r=w9.heap.size∨R.r=w9.heap.size+1):=by
      have:=HX9.out.fr.st.rs.rl
      omega
     go_cut [] from 79 to 96 (fun wx=>∃ bs w12,DcSt w11 (w9.heap.size+2) w9.heap.size (w9.heap.size+1) file [] [] decls bs w12∧wx=w12.setCell ⟨R.r,6,none⟩ (.bool (!okD2 [] [] decls||σi.ρ.twice)))
     case first=>
      cases hok:okD2 [] [] decls
      ·have cDD:=Lib.hid cD0
       clear cD0
       apply zU0 (by kernel_rfl) [isv _,isv _,isv _,isv _,isv _,isv _,isv _,isv _,isv _,isv _,isv _,isv _,isv _,isv _,isv _,isv _,isv _,isv _] (fun D A W=>(D 8=false∧w11=W)∨(D 8=true∧(fun _ W=>∃ bs,DcSt w11 (w9.heap.size+2) w9.heap.size (w9.heap.size+1) file [] [] decls bs W) A W)) (.inl ⟨rfl,hw11.symm⟩) (by kernel_rfl) (by kernel_rfl) (by kernel_rfl) (by kernel_rfl) (by kernel_rfl) (And.intro (zZ2 _) (And.intro (zZ2 _) (And.intro (zZ2 _) (And.intro (zZ2 _) (And.intro (zZ2 _) (And.intro (zZ2 _) (And.intro (zZ2 _) (And.intro (zZ2 _) (And.intro (zZ2 _) (And.intro (zZ2 _) (And.intro (zZ2 _) (And.intro (zZ2 _) (And.intro (zZ2 _) (And.intro (zZ2 _) (And.intro (zZ2 _) (And.intro (zZ2 _) (And.intro (zZ2 _) (And.intro (zZ2 _) trivial)))))))))))))))))) ?steps (by rfl) _ rfl rfl ?fin
       case steps=>
        refine(And.intro ?o0 (And.intro ?o1 (And.intro ?o2 (And.intro ?o3 (And.intro ?o4 (And.intro ?o5 (And.intro ?o6 (And.intro ?o7 (And.intro ?o8 (And.intro ?o9 (And.intro ?o10 (And.intro ?o11 (And.intro ?o12 (And.intro ?o13 (And.intro ?o14 (And.intro ?o15 (And.intro ?o16 (And.intro ?o17 trivial))))))))))))))))))
        case o0=>
         intro AA W D KK QQ hsz hP hi hdn hnd hs hd hl hk
         have HSZ:=Lib.hid hsz
         clear hsz
         have hP0:=hP
         have sl0:=hs 0 _ (by kernel_rfl) rfl
         clear hs hd hl hdn hnd
         go_simp
         exact hk _ _ rfl hP0
        case o1=>
         intro AA W D KK QQ hsz hP hi hdn hnd hs hd hl hk
         have HSZ:=Lib.hid hsz
         clear hsz
         have hP0:=hP
         have hc:=hnd 8 (by kernel_rfl)
         have hW:=phA hP hc
         subst hW
         have sl2:=hs 2 _ (by kernel_rfl) rfl
         clear hs hd hl hdn hnd
         go_simp
         exact hk _ _ rfl hP0
        case o2=>
         intro AA W D KK QQ hsz hP hi hdn hnd hs hd hl hk
         have HSZ:=Lib.hid hsz
         clear hsz
         have hP0:=hP
         have hc:=hnd 8 (by kernel_rfl)
         have hW:=phA hP hc
         subst hW
         obtain⟨_,sl80,rfl⟩:=hd 1 80 (by kernel_rfl) rfl
         clear hs hd hl hdn hnd
         go_simp
         exact hk _ _ rfl hP0
        case o3=>
         intro AA W D KK QQ hsz hP hi hdn hnd hs hd hl hk
         have HSZ:=Lib.hid hsz
         clear hsz
         have hP0:=hP
         have hc:=hnd 8 (by kernel_rfl)
         have hW:=phA hP hc
         subst hW
         obtain⟨_,sl81,rfl⟩:=hd 2 81 (by kernel_rfl) rfl
         clear hs hd hl hdn hnd
         go_simp
         exact hk _ _ rfl hP0
        case o4=>
         intro AA W D KK QQ hsz hP hi hdn hnd hs hd hl hk
         have HSZ:=Lib.hid hsz
         clear hsz
         have hP0:=hP
         have hc:=hnd 8 (by kernel_rfl)
         have hW:=phA hP hc
         subst hW
         have sl6:=hs 6 _ (by kernel_rfl) rfl
         clear hs hd hl hdn hnd
         go_simp
         exact hk _ _ rfl hP0
        case o5=>
         intro AA W D KK QQ hsz hP hi hdn hnd hs hd hl hk
         have HSZ:=Lib.hid hsz
         clear hsz
         have hP0:=hP
         have hc:=hnd 8 (by kernel_rfl)
         have hW:=phA hP hc
         subst hW
         obtain⟨_,sl83,rfl⟩:=hd 4 83 (by kernel_rfl) rfl
         clear hs hd hl hdn hnd
         go_simp
         exact hk _ _ rfl hP0
        case o6=>
         intro AA W D KK QQ hsz hP hi hdn hnd hs hd hl hk
         have HSZ:=Lib.hid hsz
         clear hsz
         have hP0:=hP
         have hc:=hnd 8 (by kernel_rfl)
         have hW:=phA hP hc
         subst hW
         have sl2:=hs 2 _ (by kernel_rfl) rfl
         clear hs hd hl hdn hnd
         go_simp
         exact hk _ _ rfl hP0
        case o7=>
         intro AA W D KK QQ hsz hP hi hdn hnd hs hd hl hk
         have HSZ:=Lib.hid hsz
         clear hsz
         have hP0:=hP
         have hc:=hnd 8 (by kernel_rfl)
         have hW:=phA hP hc
         subst hW
         have sl4:=hs 4 _ (by kernel_rfl) rfl
         clear hs hd hl hdn hnd
         go_simp
         exact hk _ _ rfl hP0
        case o8=>
         intro AA W D KK QQ hsz hP hi hdn hnd hs hd hl hk
         have HSZ:=Lib.hid hsz
         clear hsz
         have hW:=phA hP hi
         subst hW
         obtain⟨_,sl82,rfl⟩:=hd 3 82 (by kernel_rfl) rfl
         obtain⟨_,sl84,rfl⟩:=hd 5 84 (by kernel_rfl) rfl
         obtain⟨_,sl85,rfl⟩:=hd 6 85 (by kernel_rfl) rfl
         obtain⟨_,sl86,rfl⟩:=hd 7 86 (by kernel_rfl) rfl
         clear hs hd hl hdn hnd
         go_simp
         refine cDD.out.mono ?_
         rintro e w12 ⟨bs,rfl,hDs⟩
         rw[hok]
         go_simp
         exact hk _ _ rfl (.inr ⟨rfl,bs,hDs⟩)
        case o9=>
         intro AA W D KK QQ hsz hP hi hdn hnd hs hd hl hk
         have HSZ:=Lib.hid hsz
         clear hsz
         have hP0:=hP
         have hc:=hdn 8 (by kernel_rfl)
         have hP2:=phB hP hc
         obtain⟨_,sl87,rfl⟩:=hd 8 87 (by kernel_rfl) rfl
         clear hs hd hl hdn hnd
         go_simp
         exact hk _ _ rfl hP0
        case o10=>
         intro AA W D KK QQ hsz hP hi hdn hnd hs hd hl hk
         have HSZ:=Lib.hid hsz
         clear hsz
         have hP0:=hP
         have hc:=hdn 8 (by kernel_rfl)
         have hP2:=phB hP hc
         obtain⟨_,sl88,rfl⟩:=hd 9 88 (by kernel_rfl) rfl
         clear hs hd hl hdn hnd
         go_simp
         exact hk _ _ rfl hP0
        case o11=>
         intro AA W D KK QQ hsz hP hi hdn hnd hs hd hl hk
         have HSZ:=Lib.hid hsz
         clear hsz
         have hP0:=hP
         have hc:=hdn 8 (by kernel_rfl)
         have hP2:=phB hP hc
         have sl0:=hs 0 _ (by kernel_rfl) rfl
         obtain⟨_,sl89,rfl⟩:=hd 10 89 (by kernel_rfl) rfl
         clear hs hd hl hdn hnd
         refine⟨_,_,rfl,sl89,?_⟩
         exact⟨rfl,hP0⟩
        case o12=>
         intro AA W D KK QQ hsz hP hi hdn hnd hs hd hl hk
         have HSZ:=Lib.hid hsz
         clear hsz
         have hP0:=hP
         have hc:=hdn 8 (by kernel_rfl)
         have hP2:=phB hP hc
         obtain⟨_,sl89,rfl⟩:=hd 10 89 (by kernel_rfl) rfl
         obtain⟨_,sl90,rfl⟩:=hd 11 90 (by kernel_rfl) rfl
         clear hs hd hl hdn hnd
         refine⟨_,_,rfl,sl89,?_⟩
         exact⟨rfl,hP0⟩
        case o13=>
         intro AA W D KK QQ hsz hP hi hdn hnd hs hd hl hk
         have HSZ:=Lib.hid hsz
         clear hsz
         have hP0:=hP
         have hc:=hdn 8 (by kernel_rfl)
         have hP2:=phB hP hc
         obtain⟨_,sl89,rfl⟩:=hd 10 89 (by kernel_rfl) rfl
         obtain⟨_,sl91,rfl⟩:=hd 12 91 (by kernel_rfl) rfl
         clear hs hd hl hdn hnd
         refine⟨_,_,rfl,sl89,?_⟩
         exact⟨rfl,hP0⟩
        case o14=>
         intro AA W D KK QQ hsz hP hi hdn hnd hs hd hl hk
         have HSZ:=Lib.hid hsz
         clear hsz
         have hP0:=hP
         have hc:=hdn 8 (by kernel_rfl)
         have hP2:=phB hP hc
         obtain⟨_,sl89,rfl⟩:=hd 10 89 (by kernel_rfl) rfl
         obtain⟨_,sl92,rfl⟩:=hd 13 92 (by kernel_rfl) rfl
         clear hs hd hl hdn hnd
         refine⟨_,_,rfl,sl89,?_⟩
         exact⟨rfl,hP0⟩
        case o15=>
         intro AA W D KK QQ hsz hP hi hdn hnd hs hd hl hk
         have HSZ:=Lib.hid hsz
         clear hsz
         have hP0:=hP
         have hc:=hdn 8 (by kernel_rfl)
         have hP2:=phB hP hc
         obtain⟨_,sl89,rfl⟩:=hd 10 89 (by kernel_rfl) rfl
         obtain⟨_,sl93,rfl⟩:=hd 14 93 (by kernel_rfl) rfl
         clear hs hd hl hdn hnd
         go_simp
         exact hk _ _ rfl hP0
        case o16=>
         intro AA W D KK QQ hsz hP hi hdn hnd hs hd hl hk
         have HSZ:=Lib.hid hsz
         clear hsz
         have hP0:=hP
         have hc:=hdn 8 (by kernel_rfl)
         have hP2:=phB hP hc
         obtain⟨_,sl79,rfl⟩:=hd 0 79 (by kernel_rfl) rfl
         clear hs hd hl hdn hnd
         go_simp
         exact hk _ _ rfl hP0
        case o17=>
         intro AA W D KK QQ hsz hP hi hdn hnd hs hd hl hk
         have HSZ:=Lib.hid hsz
         clear hsz
         have hP0:=hP
         have hc:=hdn 8 (by kernel_rfl)
         have hP2:=phB hP hc
         obtain⟨_,sl95,rfl⟩:=hd 16 95 (by kernel_rfl) rfl
         clear hs hd hl hdn hnd
         go_simp
         exact hk _ _ rfl hP0
       case fin=>
        intro w12 D A0 hD hP GG hGG
        have hP2:=phB hP (hD 8 (by decide))
        refine zZ0 79 rfl ?_
        refine zZ0 80 rfl ?_
        refine zZ0 81 rfl ?_
        refine zZ0 82 rfl ?_
        refine zZ0 83 rfl ?_
        refine zZ0 84 rfl ?_
        refine zZ0 85 rfl ?_
        refine zZ0 86 rfl ?_
        refine zZ0 87 rfl ?_
        refine zZ0 88 rfl ?_
        refine zZ0 89 rfl ?_
        refine zZ0 90 rfl ?_
        refine zZ0 91 rfl ?_
        refine zZ0 92 rfl ?_
        refine zZ0 93 rfl ?_
        refine zZ0 94 rfl ?_
        refine zZ0 95 rfl ?_
        refine zZ0 96 rfl ?_
        refine zQ2 _ _ _ _ _ _ _ _ _ _ _ _ _ _ _ _ _ _ _ _ _ _ _ _ _ _ _ _ _ _ _ _ _ _ _ _ _ _ _ _ _ _ _ _ _ _ _ _ _ _ _ _ _ _ _ _ _ _ _ _ _ _ _ _ _ _ _ _ _ _ _ _ _ _ _ _ _ _ _ _ _ _ _ _ _ _ _ _ _ _ _ _ _ _ _ _ _ _ _ _ _ _ _ _ _ _ _ _ _ _ _ _ _ _ _ _ _ _ _ _ _ _ _ _ _ _ _ _ _ _ _ _ _ _ _ _ _ _ hGG ?_
        intro hA0
        subst hA0
        obtain⟨bs,hDs⟩:=hP2
        have hx:=hDs.hk.cell (p:=⟨R.r,6,none⟩) hzr hnr
        have hy:=hDs.hk.frozen (p:=⟨R.r,6,none⟩) hzr hnr
        rw[r6] at hx
        rw[X11.out.fr.st.rs.rc.free 6] at hy
        go_simp
        go_wp2_with fail
        go_meet
        case rel=>exact⟨bs,w12,hDs,by rw[hok];rfl⟩
      ·have cDD:=Lib.hid cD0
       clear cD0
       apply zU0 (by kernel_rfl) [isv _,isv _,isv _,isv _,isv _,isv _,isv _,isv _,isv _,isv _,isv _,isv _,isv _,isv _,isv _,isv _,isv _,isv _] (fun D A W=>(D 8=false∧w11=W)∨(D 8=true∧(fun _ W=>∃ bs,DcSt w11 (w9.heap.size+2) w9.heap.size (w9.heap.size+1) file [] [] decls bs W) A W)) (.inl ⟨rfl,hw11.symm⟩) (by kernel_rfl) (by kernel_rfl) (by kernel_rfl) (by kernel_rfl) (by kernel_rfl) (And.intro (zZ2 _) (And.intro (zZ2 _) (And.intro (zZ2 _) (And.intro (zZ2 _) (And.intro (zZ2 _) (And.intro (zZ2 _) (And.intro (zZ2 _) (And.intro (zZ2 _) (And.intro (zZ2 _) (And.intro (zZ2 _) (And.intro (zZ2 _) (And.intro (zZ2 _) (And.intro (zZ2 _) (And.intro (zZ2 _) (And.intro (zZ2 _) (And.intro (zZ2 _) (And.intro (zZ2 _) (And.intro (zZ2 _) trivial)))))))))))))))))) ?steps (by rfl) _ rfl rfl ?fin
       case steps=>
        refine(And.intro ?o0 (And.intro ?o1 (And.intro ?o2 (And.intro ?o3 (And.intro ?o4 (And.intro ?o5 (And.intro ?o6 (And.intro ?o7 (And.intro ?o8 (And.intro ?o9 (And.intro ?o10 (And.intro ?o11 (And.intro ?o12 (And.intro ?o13 (And.intro ?o14 (And.intro ?o15 (And.intro ?o16 (And.intro ?o17 trivial))))))))))))))))))
        case o0=>
         intro AA W D KK QQ hsz hP hi hdn hnd hs hd hl hk
         have HSZ:=Lib.hid hsz
         clear hsz
         have hP0:=hP
         have sl0:=hs 0 _ (by kernel_rfl) rfl
         clear hs hd hl hdn hnd
         go_simp
         exact hk _ _ rfl hP0
        case o1=>
         intro AA W D KK QQ hsz hP hi hdn hnd hs hd hl hk
         have HSZ:=Lib.hid hsz
         clear hsz
         have hP0:=hP
         have hc:=hnd 8 (by kernel_rfl)
         have hW:=phA hP hc
         subst hW
         have sl2:=hs 2 _ (by kernel_rfl) rfl
         clear hs hd hl hdn hnd
         go_simp
         exact hk _ _ rfl hP0
        case o2=>
         intro AA W D KK QQ hsz hP hi hdn hnd hs hd hl hk
         have HSZ:=Lib.hid hsz
         clear hsz
         have hP0:=hP
         have hc:=hnd 8 (by kernel_rfl)
         have hW:=phA hP hc
         subst hW
         obtain⟨_,sl80,rfl⟩:=hd 1 80 (by kernel_rfl) rfl
         clear hs hd hl hdn hnd
         go_simp
         exact hk _ _ rfl hP0
        case o3=>
         intro AA W D KK QQ hsz hP hi hdn hnd hs hd hl hk
         have HSZ:=Lib.hid hsz
         clear hsz
         have hP0:=hP
         have hc:=hnd 8 (by kernel_rfl)
         have hW:=phA hP hc
         subst hW
         obtain⟨_,sl81,rfl⟩:=hd 2 81 (by kernel_rfl) rfl
         clear hs hd hl hdn hnd
         go_simp
         exact hk _ _ rfl hP0
        case o4=>
         intro AA W D KK QQ hsz hP hi hdn hnd hs hd hl hk
         have HSZ:=Lib.hid hsz
         clear hsz
         have hP0:=hP
         have hc:=hnd 8 (by kernel_rfl)
         have hW:=phA hP hc
         subst hW
         have sl6:=hs 6 _ (by kernel_rfl) rfl
         clear hs hd hl hdn hnd
         go_simp
         exact hk _ _ rfl hP0
        case o5=>
         intro AA W D KK QQ hsz hP hi hdn hnd hs hd hl hk
         have HSZ:=Lib.hid hsz
         clear hsz
         have hP0:=hP
         have hc:=hnd 8 (by kernel_rfl)
         have hW:=phA hP hc
         subst hW
         obtain⟨_,sl83,rfl⟩:=hd 4 83 (by kernel_rfl) rfl
         clear hs hd hl hdn hnd
         go_simp
         exact hk _ _ rfl hP0
        case o6=>
         intro AA W D KK QQ hsz hP hi hdn hnd hs hd hl hk
         have HSZ:=Lib.hid hsz
         clear hsz
         have hP0:=hP
         have hc:=hnd 8 (by kernel_rfl)
         have hW:=phA hP hc
         subst hW
         have sl2:=hs 2 _ (by kernel_rfl) rfl
         clear hs hd hl hdn hnd
         go_simp
         exact hk _ _ rfl hP0
        case o7=>
         intro AA W D KK QQ hsz hP hi hdn hnd hs hd hl hk
         have HSZ:=Lib.hid hsz
         clear hsz
         have hP0:=hP
         have hc:=hnd 8 (by kernel_rfl)
         have hW:=phA hP hc
         subst hW
         have sl4:=hs 4 _ (by kernel_rfl) rfl
         clear hs hd hl hdn hnd
         go_simp
         exact hk _ _ rfl hP0
        case o8=>
         intro AA W D KK QQ hsz hP hi hdn hnd hs hd hl hk
         have HSZ:=Lib.hid hsz
         clear hsz
         have hW:=phA hP hi
         subst hW
         obtain⟨_,sl82,rfl⟩:=hd 3 82 (by kernel_rfl) rfl
         obtain⟨_,sl84,rfl⟩:=hd 5 84 (by kernel_rfl) rfl
         obtain⟨_,sl85,rfl⟩:=hd 6 85 (by kernel_rfl) rfl
         obtain⟨_,sl86,rfl⟩:=hd 7 86 (by kernel_rfl) rfl
         clear hs hd hl hdn hnd
         go_simp
         refine cDD.out.mono ?_
         rintro e w12 ⟨bs,rfl,hDs⟩
         rw[hok]
         go_simp
         exact hk _ _ rfl (.inr ⟨rfl,bs,hDs⟩)
        case o9=>
         intro AA W D KK QQ hsz hP hi hdn hnd hs hd hl hk
         have HSZ:=Lib.hid hsz
         clear hsz
         have hP0:=hP
         have hc:=hdn 8 (by kernel_rfl)
         have hP2:=phB hP hc
         obtain⟨_,sl87,rfl⟩:=hd 8 87 (by kernel_rfl) rfl
         clear hs hd hl hdn hnd
         go_simp
         exact hk _ _ rfl hP0
        case o10=>
         intro AA W D KK QQ hsz hP hi hdn hnd hs hd hl hk
         have HSZ:=Lib.hid hsz
         clear hsz
         have hP0:=hP
         have hc:=hdn 8 (by kernel_rfl)
         have hP2:=phB hP hc
         obtain⟨_,sl88,rfl⟩:=hd 9 88 (by kernel_rfl) rfl
         clear hs hd hl hdn hnd
         go_simp
         exact hk _ _ rfl hP0
        case o11=>
         intro AA W D KK QQ hsz hP hi hdn hnd hs hd hl hk
         have HSZ:=Lib.hid hsz
         clear hsz
         have hP0:=hP
         have hc:=hdn 8 (by kernel_rfl)
         have hP2:=phB hP hc
         have sl0:=hs 0 _ (by kernel_rfl) rfl
         obtain⟨_,sl89,rfl⟩:=hd 10 89 (by kernel_rfl) rfl
         clear hs hd hl hdn hnd
         refine⟨_,_,rfl,sl89,?_⟩
         first
          | (change Oper.wp _ _ _ _ _ _;go_simp;exact hk _ _ rfl hP0)
          | exact⟨rfl,hP0⟩
        case o12=>
         intro AA W D KK QQ hsz hP hi hdn hnd hs hd hl hk
         have HSZ:=Lib.hid hsz
         clear hsz
         have hP0:=hP
         have hc:=hdn 8 (by kernel_rfl)
         have hP2:=phB hP hc
         obtain⟨_,sl89,rfl⟩:=hd 10 89 (by kernel_rfl) rfl
         obtain⟨_,sl90,rfl⟩:=hd 11 90 (by kernel_rfl) rfl
         clear hs hd hl hdn hnd
         refine⟨_,_,rfl,sl89,?_⟩
         first
          | (change Oper.wp _ _ _ _ _ _;go_simp;exact hk _ _ rfl hP0)
          | exact⟨rfl,hP0⟩
        case o13=>
         intro AA W D KK QQ hsz hP hi hdn hnd hs hd hl hk
         have HSZ:=Lib.hid hsz
         clear hsz
         have hP0:=hP
         have hc:=hdn 8 (by kernel_rfl)
         have hP2:=phB hP hc
         obtain⟨_,sl89,rfl⟩:=hd 10 89 (by kernel_rfl) rfl
         obtain⟨_,sl91,rfl⟩:=hd 12 91 (by kernel_rfl) rfl
         clear hs hd hl hdn hnd
         refine⟨_,_,rfl,sl89,?_⟩
         first
          | (change Oper.wp _ _ _ _ _ _;go_simp;exact hk _ _ rfl hP0)
          | exact⟨rfl,hP0⟩
        case o14=>
         intro AA W D KK QQ hsz hP hi hdn hnd hs hd hl hk
         have HSZ:=Lib.hid hsz
         clear hsz
         have hP0:=hP
         have hc:=hdn 8 (by kernel_rfl)
         have hP2:=phB hP hc
         obtain⟨_,sl89,rfl⟩:=hd 10 89 (by kernel_rfl) rfl
         obtain⟨_,sl92,rfl⟩:=hd 13 92 (by kernel_rfl) rfl
         clear hs hd hl hdn hnd
         obtain⟨bs,hDs⟩:=hP2
         have hx:=hDs.hk.cell (p:=⟨R.r,6,none⟩) hzr hnr
         rw[r6] at hx
         refine⟨_,_,rfl,sl89,?_⟩
         first
          | (change Oper.wp _ _ _ _ _ _;go_simp;exact hk _ _ rfl hP0)
          | exact⟨rfl,hP0⟩
        case o15=>
         intro AA W D KK QQ hsz hP hi hdn hnd hs hd hl hk
         have HSZ:=Lib.hid hsz
         clear hsz
         have hP0:=hP
         have hc:=hdn 8 (by kernel_rfl)
         have hP2:=phB hP hc
         obtain⟨_,sl89,rfl⟩:=hd 10 89 (by kernel_rfl) rfl
         obtain⟨_,sl93,rfl⟩:=hd 14 93 (by kernel_rfl) rfl
         clear hs hd hl hdn hnd
         go_simp
         exact hk _ _ rfl hP0
        case o16=>
         intro AA W D KK QQ hsz hP hi hdn hnd hs hd hl hk
         have HSZ:=Lib.hid hsz
         clear hsz
         have hP0:=hP
         have hc:=hdn 8 (by kernel_rfl)
         have hP2:=phB hP hc
         obtain⟨_,sl79,rfl⟩:=hd 0 79 (by kernel_rfl) rfl
         clear hs hd hl hdn hnd
         go_simp
         exact hk _ _ rfl hP0
        case o17=>
         intro AA W D KK QQ hsz hP hi hdn hnd hs hd hl hk
         have HSZ:=Lib.hid hsz
         clear hsz
         have hP0:=hP
         have hc:=hdn 8 (by kernel_rfl)
         have hP2:=phB hP hc
         obtain⟨_,sl95,rfl⟩:=hd 16 95 (by kernel_rfl) rfl
         clear hs hd hl hdn hnd
         go_simp
         exact hk _ _ rfl hP0
       case fin=>
        intro w12 D A0 hD hP GG hGG
        have hP2:=phB hP (hD 8 (by decide))
        refine zZ0 79 rfl ?_
        refine zZ0 80 rfl ?_
        refine zZ0 81 rfl ?_
        refine zZ0 82 rfl ?_
        refine zZ0 83 rfl ?_
        refine zZ0 84 rfl ?_
        refine zZ0 85 rfl ?_
        refine zZ0 86 rfl ?_
        refine zZ0 87 rfl ?_
        refine zZ0 88 rfl ?_
        refine zZ0 89 rfl ?_
        refine zZ0 90 rfl ?_
        refine zZ0 91 rfl ?_
        refine zZ0 92 rfl ?_
        refine zZ0 93 rfl ?_
        refine zZ0 94 rfl ?_
        refine zZ0 95 rfl ?_
        refine zZ0 96 rfl ?_
        refine zQ2 _ _ _ _ _ _ _ _ _ _ _ _ _ _ _ _ _ _ _ _ _ _ _ _ _ _ _ _ _ _ _ _ _ _ _ _ _ _ _ _ _ _ _ _ _ _ _ _ _ _ _ _ _ _ _ _ _ _ _ _ _ _ _ _ _ _ _ _ _ _ _ _ _ _ _ _ _ _ _ _ _ _ _ _ _ _ _ _ _ _ _ _ _ _ _ _ _ _ _ _ _ _ _ _ _ _ _ _ _ _ _ _ _ _ _ _ _ _ _ _ _ _ _ _ _ _ _ _ _ _ _ _ _ _ _ _ _ _ hGG ?_
        intro hA0
        subst hA0
        obtain⟨bs,hDs⟩:=hP2
        have hx:=hDs.hk.cell (p:=⟨R.r,6,none⟩) hzr hnr
        have hy:=hDs.hk.frozen (p:=⟨R.r,6,none⟩) hzr hnr
        rw[r6] at hx
        rw[X11.out.fr.st.rs.rc.free 6] at hy
        go_simp
        go_wp2_with fail
        go_meet
        case rel=>exact⟨bs,w12,hDs,by rw[hok];rfl⟩
     obtain⟨bs,w12,hDs,hw12⟩:=hcut
     have H10':=H10.out
     have hb12:Below w9.heap.size w9 w12:=H10'.2.2.1.trans (hDs.hk.toBelow H10'.2.2.1.size (fun q hq h=>by omega))
     have hwt:=yQ8 bs (zZ7 decls) (w9.heap.size+2) file hDs.len
     rw[yV6] at hwt
     have hen2:((re.length:Nat)+1:Int)=(env.length:Nat):=by rw[HEnv.out];simp
     have hst:=HX9.out.fr.st.less (s':=(s+vDs decls+(zZ7 decls).length)+wObs (zW8 bs (zZ7 decls) (w9.heap.size+2) file)) (by omega) (Nat.le_refl _)
     have hBs:=hDs.hk.blk H10'.2.2.2 (by omega)
     rw[hen2] at hBs
     obtain⟨T1,Q1,G1,E1,K1⟩:=hst.scope hb12 (by omega) (Nat.le_refl _) (by omega) hBs (by simpa using hDs.hf) (by simpa using hDs.hl) (by omega) hDs.hb (fun q hq=>by have:=(hDs.hn q hq).1;have:=H10'.2.2.1.size;omega) hDs.hp hDs.len HX9.out.en HX9.out.kn HX9.out.tr.2.2.2.2.1 HF.out HD1.out.2 (Nat.le_refl _)
     obtain⟨T2,Q2,G2⟩:=T1.flag (!okD2 [] [] decls||σi.ρ.twice)
     rw[←hw12] at T2 Q2
     have hLen:=Lib.hid (show bs.length=(zZ7 decls).length∧xZ1 σi (w9.heap.size+2) bs from⟨hDs.len,hst.freshD (by omega) (fun q hq=>by have:=(hDs.hn q hq).1;have:=H10'.2.2.1.size;omega) hDs.hp⟩)
     clear hDs hb12 hwt hst hBs hen2
     have X13:=HX9.out.step T2 (Q1.trans Q2) (G1.trans G2 Q1.kp.size)
     have E2:=E1.kept Q2.kp (fun q hq hm=>(T1.zo.mu q hm).2 hq) Q2.im
     have K2:=K1.gr G2
     have S13:=Lib.hid ((S9.out.kept Q1.kp (fun q hq hm=>(HX9.out.fr.st.zo.mu q hm).2 hq) Q1.im).kept Q2.kp (fun q hq hm=>(T1.zo.mu q hm).2 hq) Q2.im)
     obtain⟨bL,hbL⟩:∃ bL,bL=w9.heap.size+1:=⟨_,rfl⟩
     go_upto_region 18 with fail
     obtain⟨w14,hw14⟩:∃ w14,wc.drew=w14:=⟨_,rfl⟩
     have hbd:Below wc.heap.size wc w14:=by rw[←hw14];exact(Below.refl _ _).drew
     have X14:=Lib.hid (X13.below hbd)
     have E4:=E2.kept (N:=fun _=>False) (Kp.ofBelow hbd _) (fun _ _ h=>h) (fun _ h=>h)
     have S14:=Lib.hid (S13.out.kept (N:=fun _=>False) (Kp.ofBelow hbd _) (fun _ _ h=>h) (fun _ h=>h))
     obtain⟨_,_,_,_,_,_,hOL,o2,hBs2,_⟩:=E4.1
     have s1:=hBs2.cell 1
     have hzs:w9.heap.size+2 < w14.heap.size:=hBs2.lt
     have hal:=X14.out.fr.st.al
     obtain⟨Aa,ca,hav⟩:∃ A c,σi.av=.slice A σi.ρ.all.length c:=by
      have hA:Acc w14 0 80 1 σi.av σi.ρ.all.length (σi.ρ.all.map lptr):=.inl hal
      exact hA.shape
     have r5:=X14.out.fr.st.rs.rc.cell 5
     have hzr2:R.r < w14.heap.size:=X14.out.fr.st.rs.rl
     have hbu:=X14.out.fr.st.bu
     have cA:=Lib.hid (zI3 σi.av σi.ρ.all (w9.heap.size+1) _ w14.heap.size _ (fun q v hq=>by
      unfold fL at hq
      rw[Option.map_eq_some_iff] at hq
      obtain⟨c,_,hc⟩:=hq
      exact⟨c,hc.symm⟩) (w14.alloc (.cells #[.map (some (w9.heap.size+1))] 118)) (World.ownsRow.alloc hal _) (by simp) (by simp) (hOL.alloc _) (by
      have h1:(scOf (w9.heap.size+2) w9.heap.size (w9.heap.size+1) bs decls).lets.length≤(zZ7 decls).length:=by simp[scOf];omega
      have h2:C.ct σi.x+(σi.ρ.all.length+wObs (σi.scope (w9.heap.size+2) w9.heap.size (w9.heap.size+1) bs decls file env).ρ.objs+(s+vDs decls+(zZ7 decls).length))≤1099511627776:=hbu
      omega))
     have hr5:w14.cell? ⟨R.r,5,none⟩=some (.slice Aa σi.ρ.all.length ca):=by rw[←hav];exact r5
     rw[hav] at cA
     clear r5
     obtain⟨e0,e1,e2,e3,e4,e5,e6,e7,e8⟩:=zZ6 X14.out.he
     apply zU0 (by kernel_rfl) [isv _,isv _,isv _,isv _,isv _,isv _,isv _,isv _,isv _,isv _,isv _,(fun x _=>∃ (A15:Option Addr) (n15 c15:Nat),x=.slice A15 n15 c15),isv _,isv _] (fun D A W=>(D 11=false∧((D 10=false∧w14=W)∨(D 10=true∧(w14.alloc (.cells #[.map (some (w9.heap.size+1))] 118))=W)))∨(D 11=true∧(fun A W=>∃ v,A.tmps[108]? = some v∧yJ5 (w14.alloc (.cells #[.map (some (w9.heap.size+1))] 118)) (.slice Aa σi.ρ.all.length ca) σi.ρ.all (fL (scOf (w9.heap.size+2) w9.heap.size (w9.heap.size+1) bs decls).lets) (.returned v) W) A W)) (.inl ⟨rfl,.inl ⟨rfl,hw14.symm⟩⟩) (by kernel_rfl) (by kernel_rfl) (by kernel_rfl) (by kernel_rfl) (by kernel_rfl) (And.intro (zZ2 _) (And.intro (zZ2 _) (And.intro (zZ2 _) (And.intro (zZ2 _) (And.intro (zZ2 _) (And.intro (zZ2 _) (And.intro (zZ2 _) (And.intro (zZ2 _) (And.intro (zZ2 _) (And.intro (zZ2 _) (And.intro (zZ2 _) (And.intro (fun _ _ _ h=>h) (And.intro (zZ2 _) (And.intro (zZ2 _) trivial)))))))))))))) ?steps (by rfl) _ rfl rfl ?fin
     case steps=>
      refine(And.intro ?o0 (And.intro ?o1 (And.intro ?o2 (And.intro ?o3 (And.intro ?o4 (And.intro ?o5 (And.intro ?o6 (And.intro ?o7 (And.intro ?o8 (And.intro ?o9 (And.intro ?o10 (And.intro ?o11 (And.intro ?o12 (And.intro ?o13 trivial))))))))))))))
      case o0=>
       intro AA W D KK QQ hsz hP hi hdn hnd hs hd hl hk
       have HSZ:=Lib.hid hsz
       clear hsz
       have hP0:=hP
       have sl0:=hs 0 _ (by kernel_rfl) rfl
       clear hs hd hl hdn hnd
       go_simp
       exact hk _ _ rfl (hP0.imp (fun h=>h) fun h=>⟨h.1,(fun⟨v,h1,h2⟩=>⟨v,by rw[zG1 (by decide)];exact h1,h2⟩) h.2⟩)
      case o1=>
       intro AA W D KK QQ hsz hP hi hdn hnd hs hd hl hk
       have HSZ:=Lib.hid hsz
       clear hsz
       have hP0:=hP
       have hc:=hnd 11 (by kernel_rfl)
       have hB:Below w14.heap.size w14 W:=by
        rcases phA hP hc with ⟨_,hW⟩ | ⟨_,hW⟩
        ·rw[←hW];exact Below.refl _ _
        ·rw[←hW];exact(Below.refl _ _).alloc (Nat.le_refl _) _
       have sl0:=hs 0 _ (by kernel_rfl) rfl
       clear hs hd hl hdn hnd
       go_simp
       exact hk _ _ rfl (.inl ⟨hc,phA hP0 hc⟩)
      case o2=>
       intro AA W D KK QQ hsz hP hi hdn hnd hs hd hl hk
       have HSZ:=Lib.hid hsz
       clear hsz
       have hP0:=hP
       have hc:=hnd 11 (by kernel_rfl)
       have hB:Below w14.heap.size w14 W:=by
        rcases phA hP hc with ⟨_,hW⟩ | ⟨_,hW⟩
        ·rw[←hW];exact Below.refl _ _
        ·rw[←hW];exact(Below.refl _ _).alloc (Nat.le_refl _) _
       obtain⟨_,sl98,rfl⟩:=hd 1 98 (by kernel_rfl) rfl
       clear hs hd hl hdn hnd
       go_simp
       exact hk _ _ rfl (.inl ⟨hc,phA hP0 hc⟩)
      case o3=>
       intro AA W D KK QQ hsz hP hi hdn hnd hs hd hl hk
       have HSZ:=Lib.hid hsz
       clear hsz
       have hP0:=hP
       have hc:=hnd 11 (by kernel_rfl)
       have hB:Below w14.heap.size w14 W:=by
        rcases phA hP hc with ⟨_,hW⟩ | ⟨_,hW⟩
        ·rw[←hW];exact Below.refl _ _
        ·rw[←hW];exact(Below.refl _ _).alloc (Nat.le_refl _) _
       obtain⟨_,sl99,rfl⟩:=hd 2 99 (by kernel_rfl) rfl
       clear hs hd hl hdn hnd
       go_simp
       exact hk _ _ rfl (.inl ⟨hc,phA hP0 hc⟩)
      case o4=>
       intro AA W D KK QQ hsz hP hi hdn hnd hs hd hl hk
       have HSZ:=Lib.hid hsz
       clear hsz
       have hP0:=hP
       have hc:=hnd 11 (by kernel_rfl)
       have hB:Below w14.heap.size w14 W:=by
        rcases phA hP hc with ⟨_,hW⟩ | ⟨_,hW⟩
        ·rw[←hW];exact Below.refl _ _
        ·rw[←hW];exact(Below.refl _ _).alloc (Nat.le_refl _) _
       obtain⟨_,sl100,rfl⟩:=hd 3 100 (by kernel_rfl) rfl
       clear hs hd hl hdn hnd
       have hx:=hB.cell (p:=⟨R.r,5,none⟩) hzr2
       rw[hr5] at hx
       go_simp
       exact hk _ _ rfl (.inl ⟨hc,phA hP0 hc⟩)
      case o5=>
       intro AA W D KK QQ hsz hP hi hdn hnd hs hd hl hk
       have HSZ:=Lib.hid hsz
       clear hsz
       have hP0:=hP
       have hc:=hnd 11 (by kernel_rfl)
       have hW:=phA (phA hP hc) (hnd 10 (by kernel_rfl))
       subst hW
       have sl2:=hs 2 _ (by kernel_rfl) rfl
       clear hs hd hl hdn hnd
       go_simp
       exact hk _ _ rfl (.inl ⟨hc,phA hP0 hc⟩)
      case o6=>
       intro AA W D KK QQ hsz hP hi hdn hnd hs hd hl hk
       have HSZ:=Lib.hid hsz
       clear hsz
       have hP0:=hP
       have hc:=hnd 11 (by kernel_rfl)
       have hW:=phA (phA hP hc) (hnd 10 (by kernel_rfl))
       subst hW
       obtain⟨_,sl102,rfl⟩:=hd 5 102 (by kernel_rfl) rfl
       clear hs hd hl hdn hnd
       go_simp
       exact hk _ _ rfl (.inl ⟨hc,phA hP0 hc⟩)
      case o7=>
       intro AA W D KK QQ hsz hP hi hdn hnd hs hd hl hk
       have HSZ:=Lib.hid hsz
       clear hsz
       have hP0:=hP
       have hc:=hnd 11 (by kernel_rfl)
       have hW:=phA (phA hP hc) (hnd 10 (by kernel_rfl))
       subst hW
       obtain⟨_,sl103,rfl⟩:=hd 6 103 (by kernel_rfl) rfl
       clear hs hd hl hdn hnd
       go_simp
       exact hk _ _ rfl (.inl ⟨hc,phA hP0 hc⟩)
      case o8=>
       intro AA W D KK QQ hsz hP hi hdn hnd hs hd hl hk
       have HSZ:=Lib.hid hsz
       clear hsz
       have hP0:=hP
       have hc:=hnd 11 (by kernel_rfl)
       have hW:=phA (phA hP hc) (hnd 10 (by kernel_rfl))
       subst hW
       obtain⟨_,sl104,rfl⟩:=hd 7 104 (by kernel_rfl) rfl
       clear hs hd hl hdn hnd
       go_simp
       exact hk _ _ rfl (.inl ⟨hc,phA hP0 hc⟩)
      case o9=>
       intro AA W D KK QQ hsz hP hi hdn hnd hs hd hl hk
       have HSZ:=Lib.hid hsz
       clear hsz
       have hP0:=hP
       have hc:=hnd 11 (by kernel_rfl)
       have hW:=phA (phA hP hc) (hnd 10 (by kernel_rfl))
       subst hW
       obtain⟨_,sl105,rfl⟩:=hd 8 105 (by kernel_rfl) rfl
       clear hs hd hl hdn hnd
       go_simp
       exact hk _ _ rfl (.inl ⟨hc,phA hP0 hc⟩)
      case o10=>
       intro AA W D KK QQ hsz hP hi hdn hnd hs hd hl hk
       have HSZ:=Lib.hid hsz
       clear hsz
       have hc:=hnd 11 (by kernel_rfl)
       have hW:=phA (phA hP hc) hi
       subst hW
       obtain⟨_,sl106,rfl⟩:=hd 9 106 (by kernel_rfl) rfl
       clear hs hd hl hdn hnd
       go_simp
       refine(yY2 _ _).mono ?_
       rintro e w15 ⟨rfl,rfl⟩
       go_simp
       exact hk _ _ rfl (.inl ⟨hc,.inr ⟨rfl,rfl⟩⟩)
      case o11=>
       intro AA W D KK QQ hsz hP hi hdn hnd hs hd hl hk
       have HSZ:=Lib.hid hsz
       clear hsz
       have hW:=phB (phA hP hi) (hdn 10 (by kernel_rfl))
       subst hW
       obtain⟨_,sl101,rfl⟩:=hd 4 101 (by kernel_rfl) rfl
       obtain⟨_,sl107,rfl⟩:=hd 10 107 (by kernel_rfl) rfl
       clear hs hd hl hdn hnd
       go_simp
       refine cA.out.mono ?_
       rintro e w15 ⟨v,gs,rfl,hV1,hV2,hV3,hV4⟩
       obtain⟨A15,c15,rfl⟩:∃ A c,v=.slice A (σi.ρ.all++gs).length c:=by
        have hA:Acc w15 0 80 1 v (σi.ρ.all++gs).length ((σi.ρ.all++gs).map lptr):=.inl hV2
        exact hA.shape
       generalize hn15:(σi.ρ.all++gs).length=n15 at hV2 hV4 ⊢
       have HN15:=Lib.hid hn15
       clear hn15
       go_simp
       exact hk _ _ ⟨_,_,_,rfl⟩ (.inr ⟨rfl,_,act_at HSZ.out (by simp) _,_,gs,rfl,hV1,by rw[HN15.out];exact hV2,hV3,hV4⟩)
      case o12=>
       intro AA W D KK QQ hsz hP hi hdn hnd hs hd hl hk
       have HSZ:=Lib.hid hsz
       clear hsz
       have hP0:=hP
       have hc:=hdn 11 (by kernel_rfl)
       have hP2:=phB hP hc
       obtain⟨_,sl97,rfl⟩:=hd 0 97 (by kernel_rfl) rfl
       clear hs hd hl hdn hnd
       go_simp
       exact hk _ _ rfl (hP0.imp (fun h=>h) fun h=>⟨h.1,(fun⟨v,h1,h2⟩=>⟨v,by rw[zG1 (by decide)];exact h1,h2⟩) h.2⟩)
      case o13=>
       intro AA W D KK QQ hsz hP hi hdn hnd hs hd hl hk
       have HSZ:=Lib.hid hsz
       clear hsz
       have hP0:=hP
       have hc:=hdn 11 (by kernel_rfl)
       have hP2:=phB hP hc
       obtain⟨_,sl109,rfl⟩:=hd 12 109 (by kernel_rfl) rfl
       clear hs hd hl hdn hnd
       go_simp
       exact hk _ _ rfl (hP0.imp (fun h=>h) fun h=>⟨h.1,(fun⟨v,h1,h2⟩=>⟨v,by rw[zG1 (by decide)];exact h1,h2⟩) h.2⟩)
     case fin=>
      intro w16 D A0 hD hP GG hGG
      have hP2:=phB hP (hD 11 (by decide))
      refine zZ0 97 rfl ?_
      refine zZ0 98 rfl ?_
      refine zZ0 99 rfl ?_
      refine zZ0 100 rfl ?_
      refine zZ0 101 rfl ?_
      refine zZ0 102 rfl ?_
      refine zZ0 103 rfl ?_
      refine zZ0 104 rfl ?_
      refine zZ0 105 rfl ?_
      refine zZ0 106 rfl ?_
      refine zZ0 107 rfl ?_
      refine zZ9 108 rfl ?_
      rintro _ ⟨A15,n15,c15,rfl⟩
      refine zZ0 109 rfl ?_
      refine zZ0 110 rfl ?_
      refine zK8 _ _ _ _ _ _ _ _ _ _ _ _ _ _ _ _ _ _ _ _ _ _ _ _ _ _ _ _ _ _ _ _ _ _ _ _ _ _ _ _ _ _ _ _ _ _ _ _ _ _ _ _ _ _ _ _ _ _ _ _ _ _ _ _ _ _ _ _ _ _ _ _ _ _ _ _ _ _ _ _ _ _ _ _ _ _ _ _ _ _ _ _ _ _ _ _ _ _ _ _ _ _ _ _ _ _ _ _ _ _ _ _ _ _ _ _ _ _ _ _ _ _ _ _ _ _ _ _ _ _ _ _ _ _ hGG ?_
      intro hA0
      subst hA0
      obtain⟨v,hv,v',gs,hve,hV1,hV2,hV3,hV4⟩:=hP2
      obtain rfl:v=v':=by injection hve
      obtain rfl:v=.slice A15 n15 c15:=by simpa using hv.symm
      have hgl:gs.length≤(zZ7 decls).length:=by
       have h:=hV1.len (L:=(zZ7 decls).map lblD) fun q hq=>by
        unfold fL at hq
        rw[Option.isSome_map] at hq
        obtain⟨c,hc⟩:=Option.isSome_iff_exists.1 hq
        have:=zR1 hc
        exact(List.of_mem_zip this).1
       simpa using h
      have hk16:Kp (fun q=>σi.av.ownBlock=some q) w14 w16:=by rw[hav];exact((Kp.refl _ w14).alloc _).trans hV3
      have hrr:=(X14.out.fr.st.am R.r)
      have hx:=hk16.cell (p:=⟨R.r,5,none⟩) hzr2 (fun h=>(hrr h).1 rfl)
      have hy:=hk16.frozen (p:=⟨R.r,5,none⟩) hzr2 (fun h=>(hrr h).1 rfl)
      rw[hr5] at hx
      rw[X14.out.fr.st.rs.rc.free 5] at hy
      obtain⟨T5,Q5,G5⟩:=X14.out.fr.st.gather hV2 hk16 (by
       rw[←hav] at hV4
       rcases hV4 with h | ⟨g,h,h2⟩
       ·exact .inl h
       ·exact .inr ⟨g,h,by simp at h2;omega⟩) hgl
      have X16:=X14.out.step T5 Q5 G5
      have E5:=E4.kept Q5.kp (fun q hq hm=>(X14.out.fr.st.zo.mu q hm).2 hq) Q5.im
      have S16:=S14.out.kept Q5.kp (fun q hq hm=>(X14.out.fr.st.zo.mu q hm).2 hq) Q5.im
      have K5:=(K2.gr G5)
      have HJ:=Lib.hid (show _∧_∧_∧_∧_ from⟨X16,E5,S16,K5,hV1⟩)
      clear X16 E5 S16 K5 hV1 hV2 hV3 hV4 T5 Q5 G5 hk16 hrr hve hgl
      go_simp
      go_wp2_with fail
      go_meet
      case rel=>
       obtain⟨X16,E5,S16,K5,hV1⟩:=HJ.out
       exact⟨_,_,_,_,[],none,0,0,rfl,rfl,Lib.hid rfl,Lib.hid (by rw[if_pos HK13.out]),Lib.hid ⟨X16.fr,X16.he,X16.hz,X16.me,X16.mz,X16.tr,E5,K5,SlI.nil_ _ _ _ _ _⟩,Lib.hid S16,Lib.hid ⟨by simp,by have:=HD1.out;simp;omega⟩,Lib.hid (.inl ⟨HK13.out,w9.heap.size+2,w9.heap.size,w9.heap.size+1,bs,gs,_,hLen.out.1,hLen.out.2,rfl,hV1,rfl⟩)⟩
   obtain⟨σ2,Im9,env2,vB,lp3,A3,n3,c3,rfl,rfl,HN3,HL3,XA,SA,HE3,HDc⟩:=hcut
   obtain rfl:=HN3.out
   have cD:=HDec.out σ2 Im9 wc s env2 (.pointer (some ⟨vB,0,none⟩)) lp3 Ad cd A3 c3 file XA.out.fr.st XA.out.tr.2.2.2.1 XA.out.tr.2.2.2.2.1 XA.out.en XA.out.kn HE3.out.1 XA.out.lp HF.out HE3.out.2 (by
    have h1:=HD2.out
    have h2:=HL3.out
    split at h2
    ·subst h2;simp;omega
    ·subst h2;omega)
   have CD:=Lib.hid cD
   clear cD HX9 S9
   obtain⟨e0,e1,e2,e3,e4,e5,e6,e7,e8⟩:=zZ6 XA.out.he
   go_wp2_with fail
   refine CD.out.mono ?_
   rintro e w10 ⟨σ',ImB,ld,AB,cB,rfl,hVd,hSt,hSp,hGr,hSl,hOk⟩
   clear e0 e1 e2 e3 e4 e5 e6 e7 e8
   have XB:=XA.out.step hSt hSp hGr
   have SB:=SA.out.kept hSp.kp (fun q hq hm=>(XA.out.fr.st.zo.mu q hm).2 hq) hSp.im
   have hk6:Kp (· = w.heap.size) w10 (w10.setCell ⟨w.heap.size,6,none⟩ (.slice AB ld.length cB)):=(Kp.refl (· = w.heap.size) w10).setCell (p:=⟨w.heap.size,6,none⟩) rfl _
   have hn6:∀ q,ImB q→¬ q=w.heap.size:=fun q hq e=>XB.me.2.2 (e▸hq)
   have XE:=Lib.hid ((XB.setE 6 (.slice AB ld.length cB)).cast (E':=#[.int .i64 k,.string ⟨t.toArray⟩,.int .i64 m,.string ⟨a.toArray⟩,.string ⟨b.toArray⟩,.slice AS subs.length cS,.slice AB ld.length cB,.slice A7 tail.length c7,.int .i64 pos]) (by simp))
   have SE:=Lib.hid (SB.kept hk6 hn6 (fun _ h=>h))
   have DE:=Lib.hid (show SlI ImB _ 11 encD AB ld∧OkIds ImB _ ld from⟨hSl.kept hk6 hn6 (fun _ h=>h),(zZ5 hk6 hn6 (fun _ h=>h)).2.2.2 _ hOk⟩)
   have VE:=Lib.hid (HVis.out σi l' σ2 env2 ld AS cS AB cB A7 c7 σ' V4.out HDc.out (by rw[←HL3.out];exact hVd))
   obtain⟨e0,e1,e2,e3,e4,e5,e6,e7,e8⟩:=zZ6 XB.he
   have f6:=XB.he.free 6
   clear hSt hSp hGr hSl hOk hVd XB SB hk6 hn6 CD
   go_upto_region 21 with fail
   clear e0 e1 e2 e3 e4 e5 e6 e7 e8
   clear f6
   generalize w10.setCell ⟨w.heap.size,6,none⟩ (.slice AB ld.length cB)=wE at XE SE DE ⊢
   obtain⟨e0,e1,e2,e3,e4,e5,e6,e7,e8⟩:=zZ6 XE.out.he
   obtain⟨y0,y1,y2,y3,y4,y5,y6,y7,y8⟩:=zZ6 XE.out.hz
   obtain⟨zf0,zf1,zf2,zf3,zf4,zf5,zf6,zf7,zf8⟩:=zK7 XE.out.hz
   go_wp2
   clear e0 e1 e2 e3 e4 e5 e6 e7 e8 y0 y1 y2 y3 y4 y5 y6 y7 y8 zf0 zf1 zf2 zf3 zf4 zf5 zf6 zf7 zf8
   obtain⟨F5,hB5,hK5⟩:=XE.out.fr.store9 (by omega) XE.out.mz XE.out.hz (.int .i64 k) (.string ⟨t.toArray⟩) (.int .i64 m) (.string ⟨a.toArray⟩) (.string ⟨b.toArray⟩) (.slice AS subs.length cS) (.slice AB ld.length cB) (.slice A7 tail.length c7) (.int .i64 pos)
   have hn5:∀ q,ImB q→¬ q=w.heap.size+1:=fun q hq e=>XE.out.mz.2.2 (e▸hq)
   have S5:=SE.out.kept hK5 hn5 (fun _ h=>h)
   have HR:=Lib.hid (show RetE R C n s σ Im w (VisE R U (.mk k t m a b As cs subs Ad cd decls At ct tail pos) env lp file σ) (.returned (.agg #[.int .i64 k,.string ⟨t.toArray⟩,.int .i64 m,.string ⟨a.toArray⟩,.string ⟨b.toArray⟩,.slice AS subs.length cS,.slice AB ld.length cB,.slice A7 tail.length c7,.int .i64 pos])) _ from⟨σ',ImB,.mk k t m a b AS cS l' AB cB ld A7 c7 tail pos,by simp only[encE,HL.out],VE.out,F5.st,F5.sp,F5.gr,⟨XE.out.tr.1,S5.sl,S5.ok,DE.out.1.kept hK5 hn5 (fun _ h=>h),(zZ5 hK5 hn5 (fun _ h=>h)).2.2.2 _ DE.out.2,S5.tl⟩⟩)
   obtain⟨z0,z1,z2,z3,z4,z5,z6,z7,z8⟩:=zZ6 hB5
   refine bodyPost_ret (v:=.agg #[.int .i64 k,.string ⟨t.toArray⟩,.int .i64 m,.string ⟨a.toArray⟩,.string ⟨b.toArray⟩,.slice AS subs.length cS,.slice AB ld.length cB,.slice A7 tail.length c7,.int .i64 pos]) ?_ rfl HR.out
   simp[results,Tryz.results93,go_sem,z0,z1,z2,z3,z4,z5,z6,z7,z8]
end
end Go.Proofs.YtdgehhgjgifikaaGreatDoor
