/- What the claim needs of:ZG. -/
import Derived.Test.YtdgehhgjgifikaaGreatDoorK18
import Derived.StillTactics
import Derived.Laws.EntriesVeiled
namespace Go.Proofs.YtdgehhgjgifikaaGreatDoor
open Go.RowKit
def zV6 (rx:Tx→Bool)(p:PA):Int:=
 match p.files.find? fun f=>decide (errF rx (plF f)≠0) with
 | some f=>errF rx (plF f)
 | none=>if p.files.any fun f=>decide (f.pkg≠((p.files.map (·.pkg)).headD [])) then 5 else 0
def zO6 {X:Type}(R:RF)(U:UseR X)(env:List ScA):Nat→List FA→GS X→GS X→List (List DA)→Prop
 | _,[],σ,σ',r=>σ'=σ∧r=[]
 | i,f ::fs,σ,σ',r=>∃ σ1 d1 r1,zX6 R U f.decls env [] i σ σ1 d1∧zO6 R U env (i+1) fs σ1 σ' r1∧r=d1 ::r1
theorem zE0 {X:Type}{R:RF}{U:UseR X}{env:List ScA}:∀ {fs:List FA}{j:Nat}{σ σ1 σ2:GS X}{r:List (List DA)}{f:FA}{d:List DA},zO6 R U env j fs σ σ1 r→zX6 R U f.decls env [] (j+fs.length) σ1 σ2 d→zO6 R U env j (fs++ [f]) σ σ2 (r++ [d])
 | [],j,σ,σ1,σ2,r,f,d,h1,h2=>by
   obtain⟨rfl,rfl⟩:=h1;exact⟨σ2,d,[],by simpa using h2,⟨rfl,rfl⟩,rfl⟩
 | x ::fs,j,σ,σ1,σ2,r,f,d,⟨σ3,d3,r3,h3,h4,e⟩,h2=>by
   subst e;refine⟨σ3,d3,r3++ [d],h3,zE0 h4 ?_,rfl⟩;have:j+1+fs.length=j+(x ::fs).length:=by simp;omega
   rw[this];exact h2
structure LoadOk (B:Nat)(w:World)(p:PA)(s:Nat)(R:RF)(σ0 σ:GS Unit)(env:List ScA)(Im:Nat→Prop)(w':World):Prop where
 st:St R clo0 1099511627776 s σ Im w'
 pk:PkI Im w' R p.files
 en:EnvI Im w' (.pointer (some ⟨R.root,0,none⟩)) env
 kn:EnvK σ.ρ.objs env
 old:∀ b,b < B→Im b
 nu:R.uB.length=p.files.length
 nb:∀ b,Im b→b < B∨w.heap.size≤b
 mo:∀ b,(zn R clo0 σ Im).Mut b→w.heap.size≤b
def zN6 (B:Nat)(rx:Tx→Bool)(p:PA)(s:Nat)(w:World)(e:Ending)(w':World):Prop:=
 Below w.heap.size w w'∧
 ((zV6 rx p≠0∧e=.returned (.tuple #[.pointer none,.int .i64 (zV6 rx p)]))∨
  (zV6 rx p=0∧(∀ f∈p.files,errF rx (plF f)=0)∧∃ R σ0 σ env rs,Root p R σ0 env∧zO6 R U0 env 0 p.files σ0 σ rs∧
   ((σ.ρ.twice=true∧e=.returned (.tuple #[.pointer none,.int .i64 6]))∨
    (σ.ρ.twice=false∧e=.returned (.tuple #[.pointer (some ⟨R.r,0,none⟩),.int .i64 0])∧∃ Im,LoadOk B w p s R σ0 σ env Im w'))))
def RetLoad (rx:Tx→Bool)(p:PA)(s:Nat)(w:World)(e:Ending)(w':World):Prop:=zN6 w.heap.size rx p s w e w'
theorem yN1 {rx:Tx→Bool}{p:PA}{f:FA}(h:∀ x∈p.files,errF rx (plF x)=0)(hf:f∈p.files)(hn:f.pkg≠(p.files.map (·.pkg)).headD []):zV6 rx p=5:=by
 unfold zV6;rw[List.find?_eq_none.2 (fun x hx=>by simpa using h x hx)];simp only;rw[if_pos (List.any_eq_true.2 ⟨f,hf,by simpa using hn⟩)]
theorem yN2 {rx:Tx→Bool}{p:PA}(h:∀ x∈p.files,errF rx (plF x)=0)(hf:∀ f∈p.files,f.pkg=(p.files.map (·.pkg)).headD []):zV6 rx p=0:=by
 unfold zV6;rw[List.find?_eq_none.2 (fun x hx=>by simpa using h x hx)];simp only;rw[if_neg];intro hc;obtain⟨f,hf1,hf2⟩:=List.any_eq_true.1 hc;exact(of_decide_eq_true hf2) (hf f hf1)
theorem LdSt.init {w1 wq w5:World}{p:PA}(hb:Below w1.heap.size w1 wq)(hb5:Below wq.heap.size wq w5)(hz5:w5.heap.size=wq.heap.size+3)(hS5:Blk w5 (wq.heap.size+2) 122 #[.map (some wq.heap.size),.map (some (wq.heap.size+1)),.pointer none,.int .i64 0])(hF5:OMap KS w5 wq.heap.size 0 (fF []))(hL5:OMap KS w5 (wq.heap.size+1) 0 (fL [])) :
  LdSt w1 p (wq.heap.size+3) (wq.heap.size+2) wq.heap.size (wq.heap.size+1) 0 [] [] [] [] (.slice none 0 0) (.slice none 0 0) false .nilFunc (w5.alloc (.cells #[.string ⟨p.path.toArray⟩,.slice p.A p.files.length p.c,.pointer (some ⟨wq.heap.size+2,0,none⟩),.slice none 0 0,.slice none 0 0,.slice none 0 0,.bool false,.bool false,.nilFunc] 86)):=by
 have hs:=hb.size;refine⟨(hb.trans (hb5.mono hs)).alloc qG _,by omega,by omega,?_,hS5.alloc _,hF5.alloc _,hL5.alloc _,rfl,.nil,fun b hb=>(by cases hb),fun o ho=>(by cases ho),rfl,rfl,fun o ho=>(by cases ho),fun j hj=>(by cases hj),fun j hj=>(by cases hj),?_,fun b hb=>?_,World.ownsRow_nil _ _ _ _,World.ownsRow_nil _ _ _ _,fun b hb=>(by cases hb)⟩
 ·rw[←hz5];exact Blk.new _ _ _
 ·simp
 ·simp at hb;rcases hb with rfl | rfl <;> omega
theorem zZ0 {B:Nat}{w w':World}{p:Addr}{v:Value}(h:Below B w w')(hp:p.block < B)(hc:w.cell? p=some v):w'.cell? p=some v:=(World.cell?_of_block (w:=w) (h.block p.block hp)).trans hc
theorem zB4 {fs:List FA}{i:Nat}{f:FA}(h:fs[i]? = some f):(zX7 fs).getD i []=f.imps.map (·.name):=by
 unfold zX7;rw[List.getD_eq_getElem?_getD,List.getElem?_map,h];rfl
theorem Src.litS (w:World)(size e:Nat)(cs:Array Value)(m n:Nat)(hn:w.heap.size=n)(h:cs.size=m*size):Src (w.alloc (.cells cs e)) size (some ⟨n,0,none⟩) m cs.toList:=hn▸Src.lit w size e cs m h
theorem PkL.keep {w w1:World}{p:PA}(h:PkL w p)(hb:Below w.heap.size w w1):PkL w1 p:=⟨(h.ok.below hb).more hb.size,h.nf,h.sz,h.dp⟩
theorem zB5 {rx:Tx→Bool}{f:Fl}(h:errF rx f=0):okDs rx true f.decls=true∧dpDs f.decls≤16:=by
 unfold errF at h;split at h
 ·exact absurd h (by decide)
 ·rename_i hok;split at h
  ·exact absurd h (by decide)
  ·rename_i hd;have hok':okF rx f=true:=by simpa using hok
   unfold okF at hok';simp only[Bool.and_eq_true] at hok';exact⟨hok'.1.2,by omega⟩
theorem errF_one {rx:Tx→Bool}{p:PA}(h:∀ f∈p.files,errF rx (plF f)=0):∀ f∈p.files,yJ1 f.decls:=fun f hf=>(one_of rx).2.2.2 _ _ (zB5 (h f hf)).1
theorem yS5 {rx:Tx→Bool}{p:PA}(h:∀ f∈p.files,errF rx (plF f)=0):∀ f∈p.files,hDs f.decls≤900:=fun f hf=>by
 have h1:=(zB5 (h f hf)).2;rw[h_dp.2.2.2];exact Nat.le_trans h1 (by decide)
theorem yW4 {w:World}{B:Nat}:∀ {l:List DA},OkAds w B l→∀ x∈(zZ7 l).map lblD,x.length≤maxLen
 | l,h,x,hx=>by
   obtain⟨d,hd,rfl⟩:=List.mem_map.1 hx;have:=OkAds.at_ h (List.mem_filter.1 hd).1;cases d with
   | mk=>exact this.1.1
theorem xX7 {w:World}{B:Nat}{p:PA}(h:∀ f∈p.files,OkF w B f)(i:Nat)(bs:List Nat):∀ q∈(zZ8 (p.files.take i)).zip bs,q.1.length≤maxLen:=fun q hq=>by
 have h1:=(List.of_mem_zip hq).1;unfold zZ8 zG3 at h1;obtain⟨d,hd,e⟩:=List.mem_map.1 h1;obtain⟨f,hf,hd2⟩:=List.mem_flatMap.1 hd;exact e▸yW4 (h f (List.mem_of_mem_take hf)).trees _ (List.mem_map.2 ⟨d,hd2,rfl⟩)
theorem zB6 {α:Type}(g:FA→List α):∀ (fs:List FA)(_:∀ f∈fs,(g f).length≤1048576),(fs.flatMap g).length≤fs.length*1048576
 | [],_=>by simp
 | f ::fs,h=>by
   have ih:=zB6 g fs fun x hx=>h x (by simp[hx]);have h0:=h f (by simp);rw[List.flatMap_cons,List.length_append,List.length_cons,Nat.succ_mul];omega
theorem yN3 {w:World}{p:PA}(h:PkL w p)(i:Nat):(zV0 (p.files.take i)).length≤p.files.length*1048576:=by
 refine Nat.le_trans (zB6 (fun f=>zZ9 f.decls) _ fun f hf=>?_) (Nat.mul_le_mul_right _ (by rw[List.length_take];exact Nat.min_le_right _ _));have h1:=(h.sz f (List.mem_of_mem_take hf)).2.1;have h2:(zZ9 f.decls).length≤(plDs f.decls).length:=List.length_filterMap_le _ _;rw[plDs_len] at h2;omega
theorem zE1 {w:World}{p:PA}(h:PkL w p)(i:Nat)(bs:List Nat):((zZ8 (p.files.take i)).zip bs).length≤p.files.length*1048576:=by
 rw[List.length_zip];refine Nat.le_trans (Nat.min_le_left _ _) ?_;rw[zZ8,List.length_map];refine Nat.le_trans (zB6 (fun f=>zZ7 f.decls) _ fun f hf=>?_) (Nat.mul_le_mul_right _ (by rw[List.length_take];exact Nat.min_le_right _ _));have h1:=(h.sz f (List.mem_of_mem_take hf)).2.1;have h2:(zZ7 f.decls).length≤f.decls.length:=List.length_filter_le _ _;omega
theorem zU6 {w:World}{base e size n:Nat}{v:Value}{xs:List Value}(h:w.ownsRow base e size v n xs):∃ A c,v=.slice A n c:=by
 rcases h.2 with ⟨rfl,rfl⟩ | ⟨g,cap,cur,rfl,_⟩
 ·exact⟨_,_,rfl⟩
 ·exact⟨_,_,rfl⟩
theorem head_pkg:∀ {l:List FA}(h:0 < l.length),l[0].pkg=(l.map (·.pkg)).headD []
 | x ::l,_=>by simp
theorem yC5 {rx:Tx→Bool}{p:PA}{i:Nat}{f:FA}(h:∀ x∈p.files.take i,errF rx (plF x)=0)(hd:p.files.drop i=f ::p.files.drop (i+1))(hf:errF rx (plF f)≠0):zV6 rx p=errF rx (plF f):=by
 have e:p.files=p.files.take i++f ::p.files.drop (i+1):=by rw[←hd,List.take_append_drop]
 have h2:p.files.find? (fun f=>decide (errF rx (plF f)≠0))=some f:=by
  rw[e,List.find?_append,List.find?_eq_none.2 (fun x hx=>by simpa using h x hx)];simp[hf]
 unfold zV6;rw[h2]
theorem yC6 {w:World}{g off i:Nat}{f:FA}(hc:∀ (j:Nat)(v:Value),(encF f)[j]? = some v→w.cell? ⟨g,off+i*4+j,none⟩=some v):w.cell? ⟨g,off+i*4,none⟩=some (.string ⟨f.pkg.toArray⟩)∧w.cell? ⟨g,off+i*4+1,none⟩=some (.slice f.Ai f.imps.length f.ci)∧w.cell? ⟨g,off+i*4+2,none⟩=some (.slice f.Ad f.decls.length f.cd)∧w.cell? ⟨g,off+i*4+3,none⟩=some (.slice f.At f.tail.length f.ct):=
 ⟨hc 0 _ rfl,hc 1 _ rfl,hc 2 _ rfl,hc 3 _ rfl⟩
structure Ld1 (w1:World)(p:PA)(r rt bF bL i:Nat)(bs:List Nat)(objs:List Ob)(iB uB:List Nat)(Vi Vu:Value)(tw:Bool)(gF:Nat)(fc:Array Value)(mB:Nat)(nm:List Tx)(wx:World):Prop where
 l:LdSt w1 p r rt bF bL i bs objs iB uB Vi Vu tw .nilFunc wx
 m:OMap KS wx mB nm.length (fF nm)
 b:Blk wx gF 58 fc
section
variable {w1:World}{p:PA}{r rt bF bL i:Nat}{bs:List Nat}{objs:List Ob}{iB uB:List Nat}{Vi Vu:Value}{tw:Bool}{gF:Nat}{fc:Array Value}{mB:Nat}{nm:List Tx}{wx wy:World}
theorem Ld1.below (h:Ld1 w1 p r rt bF bL i bs objs iB uB Vi Vu tw gF fc mB nm wx)(hb:Below wx.heap.size wx wy):Ld1 w1 p r rt bF bL i bs objs iB uB Vi Vu tw gF fc mB nm wy:=⟨h.l.below hb,h.m.below hb,h.b.keep hb⟩
theorem Ld1.flag (h:Ld1 w1 p r rt bF bL i bs objs iB uB Vi Vu tw gF fc mB nm wx)(tw':Bool):Ld1 w1 p r rt bF bL i bs objs iB uB Vi Vu tw' gF fc mB nm (wx.setCell ⟨r,6,none⟩ (.bool tw')):=by
 have hk:Kp (· = r) wx (wx.setCell ⟨r,6,none⟩ (.bool tw')):=(Kp.refl (· = r) wx).setCell (p:=⟨r,6,none⟩) rfl _;exact⟨h.l.flag tw',h.m.keptK hk fun e=>zY4 h.l.rc h.m e.symm,hk.blk h.b (zQ1 h.b h.l.rc (by decide))⟩
theorem Ld1.put (h:Ld1 w1 p r rt bF bL i bs objs iB uB Vi Vu tw gF fc mB nm wx)(hm0:w1.heap.size≤mB)(hmn:¬ yS4 r rt bF bL bs iB uB Vi Vu mB){x:Tx}(hO:OMap KS wy mB (nm.length+1) (fun y=>if y=x then some (.bool true) else fF nm y))(hg:wx.grownBy wy (some mB)):Ld1 w1 p r rt bF bL i bs objs iB uB Vi Vu tw gF fc mB (nm++ [x]) wy:=by
 have hk:Kp (· = mB) wx wy:=(Kp.refl (· = mB) wx).grown hg fun k hk=>.inl (by injection hk with hk;exact hk.symm);refine⟨h.l.kept hk fun b hb=>by subst hb;exact⟨hm0,hmn⟩,?_,hk.blk h.b (zY4 h.b h.m)⟩;rw[List.length_append];refine hO.congr fun y _=>?_;unfold fF;by_cases hy:y=x
 ·subst hy;simp
 ·simp[hy]
end
theorem yG2 {w:World}{g:Nat}{ty:TypeId}{v0 v1 v2 v3:Value}(h:Blk w g ty #[v0,v1,v2,v3]):w.cell? ⟨g,0,none⟩=some v0∧w.cell? ⟨g,1,none⟩=some v1∧w.cell? ⟨g,2,none⟩=some v2∧w.cell? ⟨g,3,none⟩=some v3:=⟨h.cell 0,h.cell 1,h.cell 2,h.cell 3⟩
set_option maxRecDepth 100000 in
theorem zQ7 {o:Oper}{P:Program}{Q:Exit→Act→World→Prop}{K:Act→World→Prop}{W:World}{fs:List Fact}{G:Act→Prop}{A0:Act}{aa ab ac ad ae af ag ah ai aj ak al am an ao ap aq ar au av aw ax ay az aA aB aC aD aE aF aG aH aI aJ aK aL aM aN aO aP aQ aR aS aT aU aV aW aX aY aZ a0 a1 a2 a3 a4 a5 a6 a7 a8 a9 ba bb bc bd be bf bg bh bi bj bk bl bm bn bo bp bq br bs bt bu bv bw bx bz bA bB bC bD bE bF bG bH bI bJ bK bL bM bN bO bP bQ bR bS bT bU bV bW bX bY bZ b0 b1 b2 b3 b4 b5 b6 b7 b8 b9 ca cb cc cd ce cf cg ch ci cj ck cl cm cn co cp cq cr cs ct cu cv cw cx cy cz cA cB cC cD cE cF cG cH cI cJ cK cL cM cN cO cP cQ cR cS cT cU cV cW cX cY cZ c0 c1 c2 c3 c4 c5 c6 c7 c8:Value}(hG:∀ A,o.wp P A W K Q→G A)(h:A0=Act.mk #[aa,ab,ac,ad,ae,af,ag,ah,ai,aj,ak,al,am,an,ao,ap,aq,ar,au,av,aw,ax,ay,az,aA,aB,aC,aD,aE,aF,aG,aH,aI,aJ,aK,aL,aM,aN,aO,aP,aQ,aR,aS,aT,aU,aV,aW,aX,aY,aZ,a0,a1,a2,a3,a4,a5,a6,a7,a8,a9,ba,bb,bc,bd,be,bf,bg,bh,bi,bj,bk,bl,bm,bn,bo,bp,bq,br,bs,bt,bu,bv,bw,bx,bz,bA,bB,bC,bD,bE,bF,bG,bH,bI,bJ,bK,bL,bM,bN,bO,bP,bQ,cL,cM,cN,cO,cP,cQ,cR,cS,cT,cU,cV,cW,cX,cY,cZ,c0,c1,c2,c3,c4,c5,c6,c7,c8,cf,cg,ch,ci,cj,ck,cl,cm,cn,co,cp,cq,cr,cs,ct,cu,cv,cw,cx,cy,cz,cA,cB,cC,cD,cE,cF,cG,cH,cI,cJ,cK] []→o.wp P (Act.mk #[aa,ab,ac,ad,ae,af,ag,ah,ai,aj,ak,al,am,an,ao,ap,aq,ar,au,av,aw,ax,ay,az,aA,aB,aC,aD,aE,aF,aG,aH,aI,aJ,aK,aL,aM,aN,aO,aP,aQ,aR,aS,aT,aU,aV,aW,aX,aY,aZ,a0,a1,a2,a3,a4,a5,a6,a7,a8,a9,ba,bb,bc,bd,be,bf,bg,bh,bi,bj,bk,bl,bm,bn,bo,bp,bq,br,bs,bt,bu,bv,bw,bx,bz,bA,bB,bC,bD,bE,bF,bG,bH,bI,bJ,bK,bL,bM,bN,bO,bP,bQ,cL,cM,cN,cO,cP,cQ,cR,cS,cT,cU,cV,cW,cX,cY,cZ,c0,c1,c2,c3,c4,c5,c6,c7,c8,cf,cg,ch,ci,cj,ck,cl,cm,cn,co,cp,cq,cr,cs,ct,cu,cv,cw,cx,cy,cz,cA,cB,cC,cD,cE,cF,cG,cH,cI,cJ,cK] []) W K Q):zY0 W (fun B=>A0=B→G B) [] fs (Act.put (Act.put (Act.put (Act.put (Act.put (Act.put (Act.put (Act.put (Act.put (Act.put (Act.put (Act.put (Act.put (Act.put (Act.put (Act.put (Act.put (Act.put (Act.put (Act.put (Act.put (Act.put (Act.put (Act.put (Act.mk #[aa,ab,ac,ad,ae,af,ag,ah,ai,aj,ak,al,am,an,ao,ap,aq,ar,au,av,aw,ax,ay,az,aA,aB,aC,aD,aE,aF,aG,aH,aI,aJ,aK,aL,aM,aN,aO,aP,aQ,aR,aS,aT,aU,aV,aW,aX,aY,aZ,a0,a1,a2,a3,a4,a5,a6,a7,a8,a9,ba,bb,bc,bd,be,bf,bg,bh,bi,bj,bk,bl,bm,bn,bo,bp,bq,br,bs,bt,bu,bv,bw,bx,bz,bA,bB,bC,bD,bE,bF,bG,bH,bI,bJ,bK,bL,bM,bN,bO,bP,bQ,bR,bS,bT,bU,bV,bW,bX,bY,bZ,b0,b1,b2,b3,b4,b5,b6,b7,b8,b9,ca,cb,cc,cd,ce,cf,cg,ch,ci,cj,ck,cl,cm,cn,co,cp,cq,cr,cs,ct,cu,cv,cw,cx,cy,cz,cA,cB,cC,cD,cE,cF,cG,cH,cI,cJ,cK] []) (some 102) cL) (some 103) cM) (some 104) cN) (some 105) cO) (some 106) cP) (some 107) cQ) (some 108) cR) (some 109) cS) (some 110) cT) (some 111) cU) (some 112) cV) (some 113) cW) (some 114) cX) (some 115) cY) (some 116) cZ) (some 117) c0) (some 118) c1) (some 119) c2) (some 120) c3) (some 121) c4) (some 122) c5) (some 123) c6) (some 124) c7) (some 125) c8):=
 zG2 qF hG h
set_option maxRecDepth 100000 in
set_option maxHeartbeats 16000000 in
theorem yN4 (rx:Tx→Bool)(p:PA)(s:Nat)(w:World){B:Nat}(hB:B≤w.heap.size)(hPB:OkP w B p)(hP:PkL w p)(hR:∀ f∈p.files,PatDs (RxOk rx) (plDs f.decls))(hG:Glob w)(hs:(∀ f∈p.files,errF rx (plF f)=0)→wF p.files+(s+(p.files.map fun f=>vDs f.decls).sum)≤1099511627776) :
  Calls Tryz.prog 39 #[.agg #[.string ⟨p.path.toArray⟩,.slice p.A p.files.length p.c]] w (zN6 B rx p s w):=by
 have hbw:=(Below.refl w.heap.size w).alloc qJ (.cells #[.string ⟨p.path.toArray⟩,.slice p.A p.files.length p.c] 24);have HB0:=qK (Blk.new w 24 #[.string ⟨p.path.toArray⟩,.slice p.A p.files.length p.c]);have HP:=qK hP;have HPB:=qK (show OkP w B p∧B≤w.heap.size from⟨hPB,hB⟩);have HG:=qK (hG.keep hbw);have HRx:=qK hR;have HS:=qK hs;have hnf:=hP.nf;have HW:=qK hbw;have HFl:=qK (hP.ok.files.below hbw);have HEach:=qK (show ∀ f∈p.files,OkF (w.alloc (.cells #[.string ⟨p.path.toArray⟩,.slice p.A p.files.length p.c] 24)) w.heap.size f from fun f hf=>(hP.ok.each f hf).below hbw);clear hP hR hG hs hbw hPB hB;go_enter Tryz.func39,Tryz.ntmps39
 go_upto_region 1 with fail
 generalize w.alloc (.cells #[.string ⟨p.path.toArray⟩,.slice p.A p.files.length p.c] 24)=w1 at HB0 HG HW HFl HEach ⊢;have b0:=HB0.out.cell 0;have b1:=HB0.out.cell 1;go_wp2;clear b0 b1;go_loopw [19] (fun iv wr=>∃ i:Nat,i≤p.files.length∧iv=.int .i64 (i:Nat)∧Hid (Below w1.heap.size w1 wr)∧Hid (∀ f∈p.files.take i,errF rx (plF f)=0)) (fun iv _=>p.files.length-(intOf iv).toNat)
 case atStart=>exact⟨0,Nat.zero_le _,rfl,qK qH,qK (fun f hf=>by simp at hf)⟩
 case round=>
  obtain⟨i,hi,rfl,Wi,Ei⟩:=hrel;by_cases hlt:i < p.files.length
  ·have hlt':(i:Int) < (p.files.length:Int):=by omega
   have HM:=qK (List.getElem_mem hlt);have HTk:=qK (List.take_succ_eq_append_getElem hlt);have HDr:=qK (List.drop_eq_getElem_cons hlt);obtain⟨bb,off,hA,hbW,hc⟩:=HFl.out.1.at_ hlt;have hbW1:bb < w1.heap.size:=Nat.lt_of_lt_of_le hbW HW.out.size;obtain⟨c0,c1,c2,c3⟩:=yC6 hc;clear hc;replace c0:=zY1 Wi.out c0;replace c1:=zY1 Wi.out c1;replace c2:=zY1 Wi.out c2;replace c3:=zY1 Wi.out c3;generalize p.files[i]=f at c0 c1 c2 c3 HM HTk HDr;obtain⟨fpkg,fAi,fci,fimps,fAd,fcd,fdecls,fAt,fct,ftail⟩:=f;have hba:=(Below.refl wr.heap.size wr).alloc qJ (.cells #[.string ⟨fpkg.toArray⟩,.slice fAi fimps.length fci,.slice fAd fdecls.length fcd,.slice fAt ftail.length fct] 58);have Wb:=qK (Wi.out.trans (hba.mono Wi.out.size));have B5:=qK (Blk.new wr 58 #[.string ⟨fpkg.toArray⟩,.slice fAi fimps.length fci,.slice fAd fdecls.length fcd,.slice fAt ftail.length fct]);have hz0:=HW.out.size;have cC:=qK (xY3 rx ⟨fpkg,fAi,fci,fimps,fAd,fcd,fdecls,fAt,fct,ftail⟩ (wr.alloc (.cells #[.string ⟨fpkg.toArray⟩,.slice fAi fimps.length fci,.slice fAd fdecls.length fcd,.slice fAt ftail.length fct] 58)) ((((HEach.out _ HM.out).below ((Wb.out.mono hz0))).more (Nat.le_trans hz0 Wb.out.size))) (HRx.out _ HM.out) (HG.out.keep Wb.out) (HP.out.dp _ HM.out));dsimp only at c0 c1 c2 c3;go_upto_region 4 with fail
   clear c0 c1 c2 c3 hbW hbW1 hba hz0 hA;generalize wr.alloc (.cells #[.string ⟨fpkg.toArray⟩,.slice fAi fimps.length fci,.slice fAd fdecls.length fcd,.slice fAt ftail.length fct] 58)=wb at Wb B5 cC ⊢;have b0:=B5.out.cell 0;have b1:=B5.out.cell 1;have b2:=B5.out.cell 2;have b3:=B5.out.cell 3;go_wp2_with fail
   refine cC.out.mono ?_;rintro e w3 ⟨rfl,hb3⟩;have W3:=qK (Wb.out.trans (hb3.mono Wb.out.size));clear b0 b1 b2 b3 hb3 cC;obtain⟨ee,hee⟩:∃ ee,ee=errF rx (plF ⟨fpkg,fAi,fci,fimps,fAd,fcd,fdecls,fAt,fct,ftail⟩):=⟨_,rfl⟩;have HEe:=qK hee;rw[←hee];clear hee;by_cases he0:ee=0
   ·subst he0;go_wp2;go_roundw
    case rel=>exact⟨i+1,by omega,by go_num,W3,qK (fun f hf=>by
     rw[HTk.out] at hf;rcases List.mem_append.1 hf with hf | hf
     ·exact Ei.out f hf
     ·rw[List.mem_singleton.1 hf];exact HEe.out.symm)⟩
    case measure=>simp[intOf];omega
   ·have HR:=qK (show zN6 B rx p s w (.returned (.tuple #[.pointer none,.int .i64 ee])) w3 from by
     have hl:=yC5 Ei.out HDr.out (by rw[←HEe.out];exact he0);rw[←HEe.out] at hl;exact⟨HW.out.trans (W3.out.mono HW.out.size),.inl ⟨by rw[hl];exact he0,by rw[hl]⟩⟩)
    go_wp2;refine bodyPost_ret (v:=.tuple #[.pointer none,.int .i64 ee]) (by simp[results,Tryz.results39,go_sem]) rfl HR.out
  ·obtain rfl:i=p.files.length:=by omega
   have HOk:=qK (show ∀ f∈p.files,errF rx (plF f)=0 from fun f hf=>Ei.out f (by rw[List.take_length];exact hf));clear Ei;have b1:=(HB0.out.keep Wi.out).cell 1;go_upto_region 9 with fail
   clear b1;go_loopw [32] (fun iv wq=>∃ i:Nat,i≤p.files.length∧iv=.int .i64 (i:Nat)∧Hid (Below w1.heap.size w1 wq)∧Hid (∀ f∈p.files.take i,f.pkg=(p.files.map (·.pkg)).headD [])) (fun iv _=>p.files.length-(intOf iv).toNat)
   case atStart=>exact⟨0,Nat.zero_le _,rfl,Wi,qK (fun f hf=>by simp at hf)⟩
   case round=>
    clear Wi;obtain⟨i,hi2,rfl,Wi,Ei⟩:=hrel;by_cases hlt:i < p.files.length
    ·have hlt':(i:Int) < (p.files.length:Int):=by omega
     have HM:=qK (List.getElem_mem hlt);have HTk:=qK (List.take_succ_eq_append_getElem hlt);obtain⟨bb,off,hA,hbW,hc⟩:=HFl.out.1.at_ hlt;obtain⟨bb',off',hA',hbW',hc0⟩:=HFl.out.1.at_ (show 0 < p.files.length by omega);rw[hA] at hA';injection hA' with hA'
     injection hA' with e1 e2
     subst e1 e2;have hbW1:bb < w1.heap.size:=Nat.lt_of_lt_of_le hbW HW.out.size;obtain⟨c0,c1,c2,c3⟩:=yC6 hc;obtain⟨f0,_,_,_⟩:=yC6 hc0;clear hc hc0 hbW';have hf0:=head_pkg (show 0 < p.files.length by omega);rw[hf0] at f0;clear hf0;simp only[Nat.zero_mul,Nat.add_zero] at f0;generalize HP0:(p.files.map (·.pkg)).headD []=P0 at f0 Ei;have HP0':=qK HP0;clear HP0;replace c0:=zY1 Wi.out c0;replace c1:=zY1 Wi.out c1;replace c2:=zY1 Wi.out c2;replace c3:=zY1 Wi.out c3;replace f0:=zY1 Wi.out f0;generalize p.files[i]=f at c0 c1 c2 c3 HM HTk;obtain⟨fpkg,fAi,fci,fimps,fAd,fcd,fdecls,fAt,fct,ftail⟩:=f;have hba:=(Below.refl wr.heap.size wr).alloc qJ (.cells #[.string ⟨fpkg.toArray⟩,.slice fAi fimps.length fci,.slice fAd fdecls.length fcd,.slice fAt ftail.length fct] 58);have Wb:=qK (Wi.out.trans (hba.mono Wi.out.size));have B5:=qK (Blk.new wr 58 #[.string ⟨fpkg.toArray⟩,.slice fAi fimps.length fci,.slice fAd fdecls.length fcd,.slice fAt ftail.length fct]);dsimp only at c0 c1 c2 c3;go_upto_region 11 with fail
     have f0:=zY1 hba f0;clear c0 c1 c2 c3 hbW hba;generalize wr.alloc (.cells #[.string ⟨fpkg.toArray⟩,.slice fAi fimps.length fci,.slice fAd fdecls.length fcd,.slice fAt ftail.length fct] 58)=wb at Wb B5 f0 ⊢;have b0:=B5.out.cell 0;have g1:=(HB0.out.keep Wb.out).cell 1;simp only[List.getElem?_toArray,List.getElem?_cons_succ,List.getElem?_cons_zero,hA] at g1;have hpos:(0:Int) < (p.files.length:Int):=by omega
     have hposN:0 < p.files.length:=by omega
     have hposL:p.files≠[]:=fun e=>by rw[e] at hposN;cases hposN
     clear hA
     go_still qF
     clear hpos hposN hposL g1 b0 f0;change Exit.then _ _ Exit.normal _ wb.drew;have Wd:=qK (Wb.out.trans ((Below.refl wb.heap.size wb).drew.mono Wb.out.size));generalize wb.drew=wd at Wd ⊢;obtain⟨bq,hbq⟩:∃ bq,(fpkg == P0)=bq:=⟨_,rfl⟩;have HBq:=qK hbq;rw[hbq];clear hbq;cases bq
     ·have HR:=qK (show zN6 B rx p s w (.returned (.tuple #[.pointer none,.int .i64 5])) wd from by
       have hl:=yN1 HOk.out HM.out (by rw[HP0'.out];have:=HBq.out;simpa using this);exact⟨HW.out.trans (Wd.out.mono HW.out.size),.inl ⟨by rw[hl];decide,by rw[hl]⟩⟩)
      go_wp2;refine bodyPost_ret (v:=.tuple #[.pointer none,.int .i64 5]) (by simp[results,Tryz.results39,go_sem]) rfl HR.out
     ·go_wp2;go_roundw
      case rel=>exact⟨i+1,by omega,by go_num,Wd,qK (fun f hf=>by
       rw[HTk.out] at hf;rcases List.mem_append.1 hf with hf | hf
       ·exact Ei.out f hf
       ·rw[List.mem_singleton.1 hf];have:=HBq.out;simpa using this)⟩
      case measure=>simp[intOf];omega
    ·obtain rfl:i=p.files.length:=by omega
     have HL0:=qK (show zV6 rx p=0 from yN2 HOk.out fun f hf=>Ei.out f (by rw[List.take_length];exact hf));clear Ei;have b0:=(HB0.out.keep Wi.out).cell 0;have b1:=(HB0.out.keep Wi.out).cell 1;go_upto_region 14 with fail
     have cO:=xY4 wr.drew;clear b0 b1;have b0:=(HB0.out.keep (Wi.out.trans ((Below.refl wr.heap.size wr).drew.mono Wi.out.size))).cell 0;have b1:=(HB0.out.keep (Wi.out.trans ((Below.refl wr.heap.size wr).drew.mono Wi.out.size))).cell 1;go_cut [9] from 45 to 48 (fun v wx=>∃ (r rt bF bL:Nat),v=.pointer (some ⟨r,0,none⟩)∧Hid (LdSt w1 p r rt bF bL 0 [] [] [] [] (.slice none 0 0) (.slice none 0 0) false .nilFunc wx))
     case first=>
      go_region_with (refine cO.mono ?_;rintro e w5 ⟨rfl,hb5,hz5,hS5,hF5,hL5⟩;have x0:=zY1 hb5 b0;have x1:=zY1 hb5 b1;have HL:=qK (LdSt.init (p:=p) (Wi.out.trans ((Below.refl wr.heap.size wr).drew.mono Wi.out.size)) hb5 hz5 hS5 hF5 hL5))
      all_goals
       go_wp2_with fail
       go_meet
       exact⟨_,_,_,_,rfl,HL⟩
     obtain⟨r,rt,bF,bL,rfl,L0⟩:=hcut;clear b0 b1 cO Wi;have b1:=(HB0.out.keep L0.out.lo).cell 1;go_upto_region 16 with fail
     clear b1;go_loopw [52] (fun iv wq=>∃ (i:Nat) (bs:List Nat) (objs:List Ob) (iB uB:List Nat) (Ai:Option Addr) (ci:Nat) (Au:Option Addr) (cu:Nat) (tw:Bool),i≤p.files.length∧iv=.int .i64 (i:Nat)∧Hid (iB.length=i∧uB.length=i∧tw=twF p.files i)∧Hid (LdSt w1 p r rt bF bL i bs objs iB uB (.slice Ai i ci) (.slice Au i cu) tw .nilFunc wq)) (fun iv _=>p.files.length-(intOf iv).toNat)
     case atStart=>exact⟨0,[],[],[],[],none,0,none,0,false,Nat.zero_le _,rfl,qK ⟨rfl,rfl,rfl⟩,L0⟩
     case round=>
      obtain⟨i,bs,objs,iB,uB,Ai,ci,Au,cu,tw,hi3,rfl,HE,Li⟩:=hrel;by_cases hlt:i < p.files.length
      ·have hlt':(i:Int) < (p.files.length:Int):=by omega
       have HLt:=qK hlt;have HM:=qK (List.getElem_mem hlt);obtain⟨bb,off,hA,hbW,hc⟩:=HFl.out.1.at_ hlt;have hbW1:bb < w1.heap.size:=Nat.lt_of_lt_of_le hbW HW.out.size;obtain⟨c0,c1,c2,c3⟩:=yC6 hc;clear hc;replace c0:=zZ0 Li.out.lo hbW1 c0;replace c1:=zZ0 Li.out.lo hbW1 c1;replace c2:=zZ0 Li.out.lo hbW1 c2;replace c3:=zZ0 Li.out.lo hbW1 c3;have HFe:=qK (show p.files[i]? = some p.files[i] from List.getElem?_eq_getElem hlt);generalize p.files[i]=f at c0 c1 c2 c3 HM HFe;obtain⟨fpkg,fAi,fci,fimps,fAd,fcd,fdecls,fAt,fct,ftail⟩:=f;dsimp only at c0 c1 c2 c3;have hba:=(Below.refl wr.heap.size wr).alloc qJ (.cells #[.string ⟨fpkg.toArray⟩,.slice fAi fimps.length fci,.slice fAd fdecls.length fcd,.slice fAt ftail.length fct] 58);have B1:=qK (Blk.new wr 58 #[.string ⟨fpkg.toArray⟩,.slice fAi fimps.length fci,.slice fAd fdecls.length fcd,.slice fAt ftail.length fct]);have L1:=qK (Li.out.below hba);have Z1:=qK (show w1.heap.size≤wr.heap.size∧¬ yS4 r rt bF bL bs iB uB (.slice Ai i ci) (.slice Au i cu) wr.heap.size from⟨Li.out.lo.size,fun h=>by have:=Li.out.own_lt _ h;omega⟩);go_upto_region 18 with fail
       clear c0 c1 c2 c3 hbW hbW1 hA hba Li;obtain⟨gF,hgF⟩:∃ gF,gF=wr.heap.size:=⟨_,rfl⟩;rw[←hgF] at B1 Z1 ⊢;generalize wr.alloc (.cells #[.string ⟨fpkg.toArray⟩,.slice fAi fimps.length fci,.slice fAd fdecls.length fcd,.slice fAt ftail.length fct] 58)=wb at B1 L1 ⊢;clear hgF;have hmm:=@run_makeMap Tryz.prog;have M2:=qK (OMap.made (P:=Tryz.prog) KS wb);have L2:=qK (L1.out.below ((Below.refl wb.heap.size wb).alloc qJ (.map #[] 0)));have B2:=qK (B1.out.alloc (.map #[] 0));have Z2:=qK (show w1.heap.size≤wb.heap.size∧¬ yS4 r rt bF bL bs iB uB (.slice Ai i ci) (.slice Au i cu) wb.heap.size from⟨L1.out.lo.size,fun h=>by have:=L1.out.own_lt _ h;omega⟩);go_upto_region 19 with fail
       clear hmm;obtain⟨mB,hmB⟩:∃ mB,mB=wb.heap.size:=⟨_,rfl⟩;rw[←hmB] at M2 Z2 ⊢;generalize wb.alloc (.map #[] 0)=wm at B2 L2 M2 ⊢;clear hmB B1 L1;have D2:=qK (show Ld1 w1 p r rt bF bL i bs objs iB uB (.slice Ai i ci) (.slice Au i cu) tw gF #[.string ⟨fpkg.toArray⟩,.slice fAi fimps.length fci,.slice fAd fdecls.length fcd,.slice fAt ftail.length fct] mB [] wm from⟨L2.out,M2.out,B2.out⟩);have HIm:=qK ((HEach.out _ HM.out).imps);have HNl:=qK ((HEach.out _ HM.out).names);have him:fimps.length≤1048576:=(HP.out.sz _ HM.out).1;obtain⟨b0,b1,b2,b3⟩:=yG2 D2.out.b;go_upto_region 20 with fail
       clear b0 b1 b2 b3 L2 M2 B2;go_loopw [61] (fun jv wq=>∃ (j:Nat) (tj:Bool),j≤fimps.length∧jv=.int .i64 (j:Nat)∧Hid (tj=(tw|| !zT4 [] ((fimps.take j).map (·.name))))∧Hid (Ld1 w1 p r rt bF bL i bs objs iB uB (.slice Ai i ci) (.slice Au i cu) tj gF #[.string ⟨fpkg.toArray⟩,.slice fAi fimps.length fci,.slice fAd fdecls.length fcd,.slice fAt ftail.length fct] mB ((fimps.take j).map (·.name)) wq)) (fun jv _=>fimps.length-(intOf jv).toNat)
       case atStart=>exact⟨0,tw,Nat.zero_le _,rfl,qK (by simp[zT4]),by simpa using D2⟩
       case round=>
        obtain⟨j,tj,hj,rfl,HTj,Dj⟩:=hrel;by_cases hjl:j < fimps.length
        ·have hjl':(j:Int) < (fimps.length:Int):=by omega
         have HTx:=qK (show (fimps.take (j+1)).map (·.name)=(fimps.take j).map (·.name)++ [fimps[j].name] from by rw[List.take_succ_eq_append_getElem hjl,List.map_append,List.map_cons,List.map_nil]);have HNx:=qK (HNl.out _ (List.getElem_mem hjl));obtain⟨bb,off,hA,hbW,hc⟩:=HIm.out.1.at_ hjl;have hbW1:bb < w1.heap.size:=Nat.lt_of_lt_of_le hbW HW.out.size;generalize fimps[j]=x at hc HTx HNx;obtain⟨xn,xp,xq⟩:=x;have c0:=zZ0 Dj.out.l.lo hbW1 (hc 0 _ rfl);have c1:=zZ0 Dj.out.l.lo hbW1 (hc 1 _ rfl);have c2:=zZ0 Dj.out.l.lo hbW1 (hc 2 _ rfl);dsimp only[Nat.add_zero] at c0 c1 c2;have hba:=(Below.refl wr.heap.size wr).alloc qJ (.cells #[.string ⟨xn.toArray⟩,.string ⟨xp.toArray⟩,.int .i64 xq] 60);have Dx:=qK (Dj.out.below hba);have Bx:=qK (Blk.new wr 60 #[.string ⟨xn.toArray⟩,.string ⟨xp.toArray⟩,.int .i64 xq]);have Zx:=qK (show r≠wr.heap.size∧mB≠wr.heap.size from⟨fun e=>by have:=Dj.out.l.own_lt r (.inl rfl);omega,fun e=>by have:=Dj.out.m.lt;omega⟩);go_upto_region 22 with fail
         clear c0 c1 c2 hA hbW hbW1 hba hc;obtain⟨gx,hgx⟩:∃ gx,gx=wr.heap.size:=⟨_,rfl⟩;rw[←hgx] at Bx Zx ⊢;generalize wr.alloc (.cells #[.string ⟨xn.toArray⟩,.string ⟨xp.toArray⟩,.int .i64 xq] 60)=wx at Dx Bx ⊢;clear hgx;obtain⟨bm,hbm⟩:∃ bm,bm=decide (xn∈(fimps.take j).map (·.name)):=⟨_,rfl⟩;have hlk:(Instr.lookup 103 (.map (some mB)) (.string ⟨xn.toArray⟩) false).run Tryz.prog wx=.ok (.bool bm) wx:=by
          have h:=Dx.out.m.look Tryz.underlying103 (Tryz.zeroValue4 wx) xn HNx.out;have e:(fF ((fimps.take j).map (·.name)) xn).getD (.bool false)=.bool bm:=by
           rw[hbm];unfold fF;by_cases hm:xn∈(fimps.take j).map (·.name)
           ·rw[if_pos hm,decide_eq_true hm];rfl
           ·rw[if_neg hm,decide_eq_false hm];rfl
          rw[e] at h;exact h
         have HBm:=qK hbm;clear hbm;have r6:=Dx.out.l.rc.cell 6;have rf6:=Dx.out.l.rc.free 6;have x0:=Bx.out.cell 0;go_cut [] from 65 to 77 (fun wz=>wz=wx.setCell ⟨r,6,none⟩ (.bool (tj||bm)))
         case first=>
          cases tj
          ·go_wp2_with fail
           go_meet
           simp
          ·go_wp2_with fail
           go_meet
           simp
         have Dy:=qK (Dx.out.flag (tj||bm));have x0:=(Bx.out.far (p:=⟨r,6,none⟩) (by have:=Zx.out.1;exact fun e=>this e.symm) (.bool (tj||bm))).cell 0;rw[←hcut] at Dy x0;clear hcut r6 rf6 hlk Dx;have hle:((fimps.take j).map (·.name)).length < maxLen:=by rw[List.length_map,List.length_take];have:maxLen=9223372036854775807:=rfl;omega
         obtain⟨w7,hrun,hO7,hg7⟩:=Dy.out.m.put Tryz.underlying103 hle xn HNx.out (.bool true);have hrun':(Instr.mapUpdate 103 (.map (some mB)) (.string ⟨xn.toArray⟩) (.bool true)).run Tryz.prog wc=.ok () w7:=hrun;have D7:=qK (Dy.out.put Z2.out.1 Z2.out.2 hO7 hg7);clear hrun hO7 hg7 hle;go_wp2;go_roundw
         case rel=>exact⟨j+1,tj||bm,by omega,by go_num,qK (by
          rw[HTx.out,zJ8,HTj.out,HBm.out,List.nil_append];cases tw <;> cases zT4 [] ((fimps.take j).map (·.name)) <;> simp),by rw[HTx.out];exact D7⟩
         case measure=>simp[intOf];omega
        ·obtain rfl:j=fimps.length:=by omega
         have HNm:=qK (show (zX7 p.files).getD i []=fimps.map (·.name) from by
          exact zB4 HFe.out)
         rw[List.take_length] at HTj Dj;have e1:=HE.out.1;have e2:=HE.out.2.1;have LI:=qK Dj.out.l;have VI:=qK (show wr.ownsRow w1.heap.size 103 1 (.slice Ai i ci) i (iB.map mptr) from by have h:=Dj.out.l.vi;rw[e1] at h;exact h);have MI:=qK (show OMap KS wr mB ((zX7 p.files).getD iB.length []).length (fF ((zX7 p.files).getD iB.length [])) from by rw[e1,HNm.out];exact Dj.out.m);have BI:=qK Dj.out.b;have HE1:=qK e1;have r3:=Dj.out.l.rc.cell 3;have hbz:=Dj.out.l.lo.size;clear e1 e2 Dj;go_upto_region 26 with (at_builtin;refine zN5 rfl (.tmp 86) (.tmp 88) 83 rfl w1.heap.size 103 1 8 elMap _ _ _ rfl (World.ownsRow.alloc VI.out _) _ 1 _ _ rfl (by decide) (Src.lit _ 1 _ _ 1 rfl) (by simp[Value.oneCell']) (by simp only[maxLen];omega) qG (by simp;omega) ?_;intro v' w4 hown' hg' hb' hob';have hLA:=qK (LI.out.pushI MI.out Z2.out.1 Z2.out.2 (by rw[HE1.out];exact hown') hg' hob');have hRA:=LI.out.rcI hg';have hBA:=qK (LI.out.boxI hg' BI.out (by decide) v');have y3:=hRA.cell 3;have z3:=hRA.free 3;obtain⟨A4,c4,hv4⟩:=zU6 hown';subst hv4)
         clear hown' hg' hb' hob' hRA y3 z3 r3 hbz;generalize w4.setCell ⟨r,3,none⟩ (.slice A4 (i+1) c4)=wA at hLA hBA ⊢;clear LI VI MI BI;have e2:=HE.out.2.1;have hmm:=@run_makeMap Tryz.prog;have LU:=qK (hLA.out.below ((Below.refl wA.heap.size wA).alloc qJ (.map #[] 0)));have MU:=qK (show OMap KS (wA.alloc (.map #[] 0)) wA.heap.size 0 (fF []) from OMap.made (P:=Tryz.prog) KS wA);have BU:=qK (hBA.out.alloc (.map #[] 0));have VU:=qK (show (wA.alloc (.map #[] 0)).ownsRow w1.heap.size 103 1 (.slice Au i cu) i (uB.map mptr) from by have h:=LU.out.vu;rw[e2] at h;exact h);have ZU:=qK (show w1.heap.size≤wA.heap.size∧¬ yS4 r rt bF bL bs (iB++ [mB]) uB (.slice A4 (i+1) c4) (.slice Au i cu) wA.heap.size from⟨hLA.out.lo.size,fun h=>by have:=hLA.out.own_lt _ h;omega⟩);have HE2:=qK e2;have r4:=hLA.out.rc.cell 4;have hbz:=hLA.out.lo.size;clear e2 hLA hBA;go_upto_region 27 with (at_builtin;refine zN5 rfl (.tmp 96) (.tmp 98) 83 rfl w1.heap.size 103 1 8 elMap _ _ _ rfl (World.ownsRow.alloc VU.out _) _ 1 _ _ rfl (by decide) (Src.litS (wA.alloc (.map #[] 0)) 1 _ _ 1 (wA.heap.size+1) (by simp) rfl) (by simp[Value.oneCell']) (by simp only[maxLen];omega) qG (by simp;omega) ?_;intro v' w5 hown' hg' hb' hob';have hLB:=qK (LU.out.pushU MU.out ZU.out.1 ZU.out.2 (by rw[HE2.out];exact hown') hg' hob');have hRB:=LU.out.rcU hg';have hBB:=qK (LU.out.boxU hg' BU.out (by decide) v');have y4:=hRB.cell 4;have z4:=hRB.free 4;obtain⟨A5,c5,hv5⟩:=zU6 hown';subst hv5)
         clear hown' hg' hb' hob' hRB y4 z4 r4 hbz hmm;generalize w5.setCell ⟨r,4,none⟩ (.slice A5 (i+1) c5)=wB at hLB hBB ⊢;generalize wA.heap.size=mU at hLB ⊢;clear LU VU MU BU ZU;obtain⟨wD,hwD⟩:∃ wD,wB.drew=wD:=⟨_,rfl⟩;have LD:=qK (hLB.out.below (Below.refl wB.heap.size wB).drew);have BD:=qK (hBB.out.keep (Below.refl wB.heap.size wB).drew);rw[hwD] at LD BD;clear hLB hBB;have HSl:=qK (((((HEach.out _ HM.out).decls.below (LD.out.lo.mono HW.out.size)).more HW.out.size)));have HOk2:=qK ((zV8 HW.out.size).2.2.2 _ ((zW2 (LD.out.lo.mono HW.out.size)).2.2.2 _ (HEach.out _ HM.out).trees));have cD0:=zC8 rt bF bL i w1.heap.size (.pointer none) 0 fAd fcd fdecls (zV0 (p.files.take i)) ((zZ8 (p.files.take i)).zip bs) wD LD.out.sc LD.out.hF LD.out.hL HSl.out HOk2.out (LD.out.ml _ (by simp)) (LD.out.ml _ (by simp)) (fun e=>by have h:=LD.out.mn;rw[List.nodup_cons] at h;exact h.1 (by simp[e])) (xX7 HEach.out i bs) (Nat.le_trans (yN3 HP.out i) (by have:=HP.out.nf;omega)) (Nat.le_trans (zE1 HP.out i bs) (by have:=HP.out.nf;omega));have r2:=LD.out.rc.cell 2;have r6:=LD.out.rc.cell 6;have f2:=BD.out.cell 2;have hzr:r < wD.heap.size:=LD.out.rc.lt;have hnr:¬ (r=bF∨r=bL):=fun e=>by
          rcases e with e | e
          ·exact LD.out.blkNeMap LD.out.rc bF (by simp) e
          ·exact LD.out.blkNeMap LD.out.rc bL (by simp) e
         cases hok:okD2 (zV0 (p.files.take i)) ((zZ8 (p.files.take i)).zip bs) fdecls
         ·have cDD:=qK cD0;clear cD0;apply zT5 qF [isv _,isv _,isv _,isv _,isv _,isv _,isv _,isv _,isv _,isv _,isv _,isv _,isv _,isv _,isv _,isv _,isv _,isv _,isv _,isv _,isv _,isv _,isv _,isv _] (fun D A W=>(D 14=false∧wD=W)∨(D 14=true∧(fun _ W=>∃ bs2,DcSt wD rt bF bL i (zV0 (p.files.take i)) ((zZ8 (p.files.take i)).zip bs) fdecls bs2 W) A W)) (.inl ⟨rfl,hwD.symm⟩) qF qF qF qF qF (yW (yW (yW (yW (yW (yW (yW (yW (yW (yW (yW (yW (yW (yW (yW (yW (yW (yW (yW (yW (yW (yW (yW (yW trivial)))))))))))))))))))))))) ?steps (by rfl) _ rfl rfl ?fin;case steps=>exact qA (jO 9) (qA (kA 14 9) (qA (qY 14 1 103) (qA (qY 14 2 104) (qA (qY 14 3 105) (qA (qY 14 4 106) (qA (qY 14 5 107) (qA (kA 14 11) (qA (qY 14 7 109) (qA (kA 14 9) (qA (qY 14 9 111) (qA (qY 14 10 112) (qA (qY 14 11 113) (qA (kA 14 10) (qA (jD 6 108 8 110 12 114 13 115) (qA (qZ 14 14 116) (qA (qZ 14 15 117) (qA (yB 14 9 16 118) (qA (kJ 14 16 118 17 119) (qA (kJ 14 16 118 18 120) (qA (kJ 14 16 118 19 121) (qA (kX 14 16 118 20 122) (qA (qZ 14 0 102) (qA (qZ 14 22 124) trivial)))))))))))))))))))))))
          case fin=>
           intro w12 D A0 hD hP GG hGG;have hP2:=phB hP (hD 14 (by decide))
           iterate 24 refine qN ?_
           refine zQ7 hGG ?_;intro hA0;subst hA0;obtain⟨bs2,hDs⟩:=hP2;have hx:=hDs.hk.cell (p:=⟨r,6,none⟩) hzr hnr;have hy:=hDs.hk.frozen (p:=⟨r,6,none⟩) hzr hnr;rw[r6] at hx;rw[LD.out.rc.free 6] at hy;have hi4:=HLt.out;have hfe:p.files[i]=⟨fpkg,fAi,fci,fimps,fAd,fcd,fdecls,fAt,fct,ftail⟩:=by
            have h:=HFe.out;rw[List.getElem?_eq_getElem hi4] at h;exact Option.some.inj h
           have hLZ:=(LD.out.decl hi4 (bs':=bs2) (by rw[hfe];exact hDs)).flag true;rw[hfe] at hLZ;have LZ:=qK hLZ;clear hLZ;have HTw:=qK (show true=twF p.files (i+1) from by
            have e:(p.files.map (·.decls)).getD i []=fdecls:=by
             rw[List.getD_eq_getElem?_getD,List.getElem?_map,HFe.out];rfl
            have e2:=yS3 (zV0 (p.files.take i)) ((zZ8 (p.files.take i)).zip bs) fdecls;rw[hok,List.map_fst_zip (by rw[zZ8,List.length_map,LD.out.ln];exact Nat.le_refl _)] at e2;rw[twF,HNm.out,e,←e2,←HE.out.2.2,←HTj.out];rfl)
           have HE3:=qK (show (iB++ [mB]).length=i+1∧(uB++ [mU]).length=i+1 from⟨by rw[List.length_append,HE.out.1];rfl,by rw[List.length_append,HE.out.2.1];rfl⟩);clear hfe hi4 hDs;go_simp;go_wp2;go_roundw
           case rel=>exact⟨i+1,_,_,_,_,A4,c4,A5,c5,_,by omega,by go_num,qK ⟨HE3.out.1,HE3.out.2,HTw.out⟩,LZ⟩
           case measure=>simp[intOf];omega
         ·have cDD:=qK cD0;clear cD0;apply zT5 qF [isv _,isv _,isv _,isv _,isv _,isv _,isv _,isv _,isv _,isv _,isv _,isv _,isv _,isv _,isv _,isv _,isv _,isv _,isv _,isv _,isv _,isv _,isv _,isv _] (fun D A W=>(D 14=false∧wD=W)∨(D 14=true∧(fun _ W=>∃ bs2,DcSt wD rt bF bL i (zV0 (p.files.take i)) ((zZ8 (p.files.take i)).zip bs) fdecls bs2 W) A W)) (.inl ⟨rfl,hwD.symm⟩) qF qF qF qF qF (yW (yW (yW (yW (yW (yW (yW (yW (yW (yW (yW (yW (yW (yW (yW (yW (yW (yW (yW (yW (yW (yW (yW (yW trivial)))))))))))))))))))))))) ?steps (by rfl) _ rfl rfl ?fin;case steps=>
           refine qA (jO 9) (qA (kA 14 9) (qA (qY 14 1 103) (qA (qY 14 2 104) (qA (qY 14 3 105) (qA (qY 14 4 106) (qA (qY 14 5 107) (qA (kA 14 11) (qA (qY 14 7 109) (qA (kA 14 9) (qA (qY 14 9 111) (qA (qY 14 10 112) (qA (qY 14 11 113) (qA (kA 14 10) (qA (jD 6 108 8 110 12 114 13 115) (qA (qZ 14 14 116) (qA (qZ 14 15 117) (qA (jP 14 9 16 118) (qA (kM 14 16 118 17 119) (qA (kM 14 16 118 18 120) (qA ?_ ?_))))))))))))))))))))
           ·intro AA W D KK QQ hsz hP hi hdn hnd hs hd hl hk;have HSZ:=qK hsz;clear hsz;have hP0:=hP;have hc:=hdn 14 qF;have hP2:=phB hP hc;obtain⟨_,sl118,rfl⟩:=hd 16 118 qF rfl;obtain⟨_,sl121,rfl⟩:=hd 19 121 qF rfl;clear hs hd hl hdn hnd;obtain⟨bs2,hDs⟩:=hP2;have hx:=hDs.hk.cell (p:=⟨r,6,none⟩) hzr hnr;rw[r6] at hx;refine⟨_,_,rfl,sl118,?_⟩;first
             | (change Oper.wp _ _ _ _ _ _;go_simp;exact hk _ _ rfl hP0)
             | exact⟨rfl,hP0⟩
           exact qA (kX 14 16 118 20 122) (qA (qZ 14 0 102) (qA (qZ 14 22 124) trivial))
          case fin=>
           intro w12 D A0 hD hP GG hGG;have hP2:=phB hP (hD 14 (by decide))
           iterate 24 refine qN ?_
           refine zQ7 hGG ?_;intro hA0;subst hA0;obtain⟨bs2,hDs⟩:=hP2;have hx:=hDs.hk.cell (p:=⟨r,6,none⟩) hzr hnr;have hy:=hDs.hk.frozen (p:=⟨r,6,none⟩) hzr hnr;rw[r6] at hx;rw[LD.out.rc.free 6] at hy;have hi4:=HLt.out;have hfe:p.files[i]=⟨fpkg,fAi,fci,fimps,fAd,fcd,fdecls,fAt,fct,ftail⟩:=by
            have h:=HFe.out;rw[List.getElem?_eq_getElem hi4] at h;exact Option.some.inj h
           have hLZ:=(LD.out.decl hi4 (bs':=bs2) (by rw[hfe];exact hDs)).flag tj;rw[hfe] at hLZ;have LZ:=qK hLZ;clear hLZ;have HTw:=qK (show tj=twF p.files (i+1) from by
            have e:(p.files.map (·.decls)).getD i []=fdecls:=by
             rw[List.getD_eq_getElem?_getD,List.getElem?_map,HFe.out];rfl
            have e2:=yS3 (zV0 (p.files.take i)) ((zZ8 (p.files.take i)).zip bs) fdecls;rw[hok,List.map_fst_zip (by rw[zZ8,List.length_map,LD.out.ln];exact Nat.le_refl _)] at e2;rw[twF,HNm.out,e,←e2,←HE.out.2.2,←HTj.out];rfl)
           have HE3:=qK (show (iB++ [mB]).length=i+1∧(uB++ [mU]).length=i+1 from⟨by rw[List.length_append,HE.out.1];rfl,by rw[List.length_append,HE.out.2.1];rfl⟩);clear hfe hi4 hDs;go_simp;go_wp2;go_roundw
           case rel=>exact⟨i+1,_,_,_,_,A4,c4,A5,c5,_,by omega,by go_num,qK ⟨HE3.out.1,HE3.out.2,HTw.out⟩,LZ⟩
           case measure=>simp[intOf];omega
      ·obtain rfl:i=p.files.length:=by omega
       have HP1:=qK (HP.out.keep HW.out);have HPB1:=qK (show OkP w1 B p∧B≤w1.heap.size from⟨HPB.out.1.below (HW.out.mono HPB.out.2),Nat.le_trans HPB.out.2 HW.out.size⟩);have hone:=errF_one HOk.out;have hh:=yS5 HOk.out;have hs:=HS.out HOk.out;have e1:=HE.out.1;have e2:=HE.out.2.1;have r2:=Li.out.rc.cell 2;have s1:=Li.out.sc.cell 1;have cV:=yX6 (some bL) wr;have cC:=yK8 bL _ wr.heap.size _ (fun q v hq=>by
        unfold fL at hq;rw[Option.map_eq_some_iff] at hq;obtain⟨c,_,hc⟩:=hq;exact⟨c,hc.symm⟩) (wr.alloc (.cells #[.map (some bL)] 118)) (by simp) (by simp) (Li.out.hL.alloc _) (Nat.le_trans (zE1 HP.out _ bs) (by have:=HP.out.nf;omega))
       have HCC:=qK cC;have hLi:=Li;clear cC;go_upto_region 30 with (first
        | (refine cV.mono ?_;rintro e w5 ⟨rfl,rfl⟩)
        | (refine HCC.out.mono ?_;rintro e w6 ⟨v,gs,rfl,hV,hrow,hk6,hav⟩;rw[List.nil_append] at hrow;obtain⟨A6,c6,hv6⟩:=zU6 hrow;subst hv6;have hB6:=hk6.blk (hLi.out.rc.alloc (.cells #[.map (some bL)] 118)) (fun e=>by cases e);have HB6:=qK hB6;have HX6:=qK (show _∧_∧_∧_ from⟨hV,hrow,hk6,hav⟩);have y5:=hB6.cell 5;have z5:=hB6.free 5;clear hV hrow hk6 hav hB6;generalize hng:gs.length=ng at HX6))
       clear r2 s1 y5 z5 cV HCC;have y8:=HB6.out.cell 8;have z8:=HB6.out.free 8;have HNg:=qK hng;clear hng;go_upto_region 31 with fail
       clear y8 z8;have HK6:=qK (show Kp (fun _=>False) wr w6 from((Kp.refl _ wr).alloc (.cells #[.map (some bL)] 118)).trans (HX6.out.2.2.1.mono fun b hb=>by cases hb));have hfin:=LdSt.fin (use:=.func (.func 75) #[] #[]) (s:=s+(p.files.map fun f=>vDs f.decls).sum) (gs:=gs) (wy:=w6) (av:=.slice A6 ng c6) (bs:=bs) (iB:=iB) (uB:=uB) (Ai:=Ai) (Au:=Au) (ci:=ci) (cu:=cu) (by rw[e1,e2];exact hLi.out) e1 e2 HP1.out hone hh hs (by have h:=HX6.out.1;rw[List.take_length] at h;exact h) (by rw[HNg.out];exact HX6.out.2.1) HK6.out (fun b hb=>by
        rcases HX6.out.2.2.2 with h | ⟨g,h,h2⟩
        ·rw[h] at hb;cases hb
        ·rw[h] at hb;injection hb with hb;subst hb;simp at h2;omega) HE.out.2.2 HPB1.out.2 HPB1.out.1
       have HFin:=qK hfin;clear hfin hone hh hs e1 e2 HX6 HK6 HB6;generalize (w6.setCell ⟨r,5,none⟩ (.slice A6 ng c6)).setCell ⟨r,8,none⟩ (.func (.func 75) #[] #[])=w7 at HFin ⊢;obtain⟨R,σ0,env,Im0,hRr,hRu,hRn,hRt,hSt,hPk,hEn,hKn,hlo,hold,hnb,hmo⟩:=HFin.out;have HRu:=qK hRu;have HRt:=qK hRt;have HRn:=qK hRn;have HL7:=qK (show LoadOk B w1 p (s+(p.files.map fun f=>vDs f.decls).sum) R σ0 σ0 env Im0 w7 from⟨hSt,hPk,hEn,hKn,hold,hRn,hnb,hmo⟩);have HLo:=qK hlo;have HRr:=qK hRr;clear HFin hRu hRt hRn hSt hPk hEn hKn hlo hold hnb hmo hLi;subst hRr;have b1:=(HB0.out.keep HLo.out).cell 1;go_upto_region 32 with fail
       clear b1;go_loopw [146] (fun iv wq=>∃ (i:Nat) (σi:GS Unit) (Imi:Nat→Prop) (rs:List (List DA)),i≤p.files.length∧iv=.int .i64 (i:Nat)∧Hid (LoadOk B w1 p (s+((p.files.drop i).map fun f=>vDs f.decls).sum) R σ0 σi env Imi wq)∧Hid (zO6 R U0 env 0 (p.files.take i) σ0 σi rs)∧Hid (Below w1.heap.size w1 wq)) (fun iv _=>p.files.length-(intOf iv).toNat)
       case atStart=>exact⟨0,σ0,Im0,[],Nat.zero_le _,rfl,by simpa using HL7,qK ⟨rfl,rfl⟩,HLo⟩
       case round=>
        obtain⟨i,σi,Imi,rs,hi4,rfl,Oi,Vi,Wi⟩:=hrel;by_cases hlt:i < p.files.length
        ·have hlt':(i:Int) < (p.files.length:Int):=by omega
         have HTk:=qK (List.take_succ_eq_append_getElem hlt);have hsum:((p.files.drop i).map fun f=>vDs f.decls).sum=vDs p.files[i].decls+((p.files.drop (i+1)).map fun f=>vDs f.decls).sum:=by rw[List.drop_eq_getElem_cons hlt,List.map_cons,List.sum_cons]
         obtain⟨bF',bL',henv⟩:=HRt.out.ev;have cF:=qK (yS2 (U:=U0) p.files i hlt (zI1 HRu.out Tryz.call75 cloOk0 _) σi Imi wr (s+((p.files.drop (i+1)).map fun f=>vDs f.decls).sum) env (Oi.out.st.less (by rw[hsum];omega) qJ) Oi.out.pk Oi.out.en Oi.out.kn (by rw[henv];simp) (by rw[HRn.out];exact hlt) (by rw[henv];have h:=yS5 HOk.out _ (List.getElem_mem hlt);simp;omega));clear hsum henv;go_wp2_with fail
         refine cF.out.mono ?_;rintro e w3 ⟨σ',Im',l',A',c',rfl,hV,hS,hQ,hGr,hSl,hOl⟩;have hN:∀ b,Imi b→¬ (zn R clo0 σi Imi).Mut b:=fun b hb hm=>(Oi.out.st.zo.mu b hm).2 hb;have O3:=qK (show LoadOk B w1 p (s+((p.files.drop (i+1)).map fun f=>vDs f.decls).sum) R σ0 σ' env Im' w3 from⟨hS,Oi.out.pk.kept hQ.kp hN hQ.im,Oi.out.en.kept hQ.kp hN hQ.im,Oi.out.kn.gr hGr,fun b hb=>hQ.im b (Oi.out.old b hb),Oi.out.nu,fun b hb=>(hQ.ni b hb).elim (Oi.out.nb b) fun h=>.inr (Nat.le_trans Wi.out.size h),fun b hb=>(hQ.mu b hb).elim (Oi.out.mo b) fun h=>Nat.le_trans Wi.out.size h⟩);have W3:=qK (Wi.out.trans (hQ.kp.toBelow Wi.out.size fun b hb hm=>by have:=Oi.out.mo b hm;omega));have V3:=qK (show zO6 R U0 env 0 (p.files.take (i+1)) σ0 σ' (rs++ [l']) from by
          rw[HTk.out];refine zE0 Vi.out ?_;have e:0+(p.files.take i).length=i:=by rw[List.length_take];omega
          rw[e];exact hV)
         clear cF hV hS hQ hGr hSl hOl hN Oi Vi Wi;go_wp2;go_roundw
         case rel=>exact⟨i+1,σ',Im',_,by omega,by go_num,O3,V3,W3⟩
         case measure=>simp[intOf];omega
        ·obtain rfl:i=p.files.length:=by omega
         have r6:=Oi.out.st.rs.rc.cell 6;have V4:=qK (show zO6 R U0 env 0 p.files σ0 σi rs from by have h:=Vi.out;rw[List.take_length] at h;exact h);have O4:=qK (show LoadOk B w p s R σ0 σi env Imi wr from⟨Oi.out.st.less qG qJ,Oi.out.pk,Oi.out.en,Oi.out.kn,Oi.out.old,Oi.out.nu,fun b hb=>(Oi.out.nb b hb).imp_right fun h=>Nat.le_trans HW.out.size h,fun b hb=>Nat.le_trans HW.out.size (Oi.out.mo b hb)⟩);have W4:=qK (HW.out.trans (Wi.out.mono HW.out.size));cases htw:σi.ρ.twice
         ·have HR:=qK (show zN6 B rx p s w (.returned (.tuple #[.pointer (some ⟨R.r,0,none⟩),.int .i64 0])) wr from⟨W4.out,.inr ⟨HL0.out,HOk.out,R,σ0,σi,env,rs,HRt.out,V4.out,.inr ⟨htw,rfl,Imi,O4.out⟩⟩⟩);rw[htw] at r6;clear htw;go_wp2;refine bodyPost_ret (v:=.tuple #[.pointer (some ⟨R.r,0,none⟩),.int .i64 0]) (by simp[results,Tryz.results39,go_sem]) rfl HR.out
         ·have HR:=qK (show zN6 B rx p s w (.returned (.tuple #[.pointer none,.int .i64 6])) wr from⟨W4.out,.inr ⟨HL0.out,HOk.out,R,σ0,σi,env,rs,HRt.out,V4.out,.inl ⟨htw,rfl⟩⟩⟩);rw[htw] at r6;clear htw;go_wp2;refine bodyPost_ret (v:=.tuple #[.pointer none,.int .i64 6]) (by simp[results,Tryz.results39,go_sem]) rfl HR.out
theorem yS6 (rx:Tx→Bool)(p:PA)(s:Nat)(w:World)(hP:PkL w p)(hR:∀ f∈p.files,PatDs (RxOk rx) (plDs f.decls))(hG:Glob w)(hs:(∀ f∈p.files,errF rx (plF f)=0)→wF p.files+(s+(p.files.map fun f=>vDs f.decls).sum)≤1099511627776) :
  Calls Tryz.prog 39 #[.agg #[.string ⟨p.path.toArray⟩,.slice p.A p.files.length p.c]] w (RetLoad rx p s w):=yN4 rx p s w qJ hP.ok hP hR hG hs
end Go.Proofs.YtdgehhgjgifikaaGreatDoor
