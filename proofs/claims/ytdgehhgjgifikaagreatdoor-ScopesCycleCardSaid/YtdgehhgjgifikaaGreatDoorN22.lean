/- What the claim needs of:ZD ZE. -/
import Derived.Test.YtdgehhgjgifikaaGreatDoorN21
namespace Go.Proofs.YtdgehhgjgifikaaGreatDoor
open Go.RowKit
mutual
def szE:EA→Prop
 | .mk _ _ _ _ _ _ _ subs _ _ decls _ _ tail _=>subs.length≤1048576∧szEs subs∧decls.length≤1048576∧szDs decls∧tail.length≤1048576
def szEs:List EA→Prop
 | []=>True
 | x ::l=>szE x∧szEs l
def szD:DA→Prop
 | .mk _ _ _ _ _ _ _ subs _ _ body _ _ tail _ _ lead _ _=>subs.length≤1048576∧szEs subs∧body.length≤1048576∧szDs body∧tail.length≤1048576∧lead.length≤1048576
def szDs:List DA→Prop
 | []=>True
 | x ::l=>szD x∧szDs l
end
mutual
def oneE:EA→Prop
 | .mk _ _ _ _ _ _ _ subs _ _ decls _ _ _ _=>yE4 subs∧yL2 decls
def yE4:List EA→Prop
 | []=>True
 | x ::l=>oneE x∧yE4 l
def oneD:DA→Prop
 | .mk k _ _ _ _ _ _ subs _ _ body _ _ _ _ _ _ _ _=>(k=4→subs.length=1)∧yE4 subs∧yL2 body
def yL2:List DA→Prop
 | []=>True
 | x ::l=>oneD x∧yL2 l
end
theorem plEs_len (l:List EA):(plEs l).length=l.length:=by rw[zX9,List.length_map]
theorem plDs_len (l:List DA):(plDs l).length=l.length:=by rw[zY7,List.length_map]
theorem one_of (rx:Tx→Bool):(∀ e,∀ cj mk ea,okE rx (plE e) cj mk ea=true→oneE e)∧(∀ d,∀ top,okD rx top (plD d)=true→oneD d)∧(∀ l,(∀ cj mk li la,okEs rx cj mk li la (plEs l)=true→yE4 l)∧∀ cj,okDE rx cj (plEs l)=true→yE4 l)∧∀ l,∀ top,okDs rx top (plDs l)=true→yL2 l:=
 zX4 (fun k t n a b As cs subs Ad cd decls At ct tail pos h1 h2 cj mk ea h=>by
   rw[plE,okE] at h
   simp only[Bool.and_eq_true] at h
   exact⟨h1.1 _ _ _ _ h.1.2,h2 _ h.2⟩)
  (fun k p l a b As cs subs Ab cb body At ct tail Al cl lead tr pos h1 h2 top h=>by
   rw[plD,okD] at h
   simp only[Bool.and_eq_true] at h
   refine⟨fun hk=>?_,h1.2 _ h.2,h2 _ h.1.2⟩
   have hs:=h.1.1.1
   subst hk
   unfold yR5 at hs
   simp only[Bool.and_eq_true,plEs_len] at hs
   simpa using hs.1.1.1.1.2)
  ⟨fun _ _ _ _ _=>trivial,fun _ _=>trivial⟩
  (fun e l h1 h2=>⟨fun cj mk li la h=>by
    rw[plEs,okEs,Bool.and_eq_true] at h
    exact⟨h1 _ _ _ h.1,h2.1 _ _ _ _ h.2⟩,fun cj h=>by
    rw[plEs,okDE,Bool.and_eq_true] at h
    exact⟨h1 _ _ _ h.1,h2.2 _ h.2⟩⟩)
  (fun _ _=>trivial)
  (fun d l h1 h2 top h=>by
   rw[plDs,okDs,Bool.and_eq_true] at h
   exact⟨h1 _ h.1,h2 _ h.2⟩)
theorem h_dp:(∀ e,hE e=dpE (plE e))∧(∀ d,hD d=dpD (plD d))∧(∀ l,hEs l=dpEs (plEs l))∧∀ l,hDs l=dpDs (plDs l):=
 zX4 (fun k t n a b As cs subs Ad cd decls At ct tail pos h1 h2=>by rw[hE,plE,dpE,h1,h2];omega)
  (fun k p l a b As cs subs Ab cb body At ct tail Al cl lead tr pos h1 h2=>by rw[hD,plD,dpD,h1,h2];omega)
  rfl (fun e l h1 h2=>by rw[hEs,plEs,dpEs,h1,h2]) rfl (fun e l h1 h2=>by rw[hDs,plDs,dpDs,h1,h2])
theorem zQ3 {α:Type}{w:World}{B k:Nat}{enc:α→List Value}{A:Option Addr}{l:List α}(h:SlN w B k enc A l)(hB:B≤w.heap.size)(hl:l.length≤1048576):SlI (fun b=>b < B) w k enc A l:=by
 refine⟨h.1.more hB,hl,?_⟩
 rcases h.1 with rfl | ⟨b,o,rfl,hb,_⟩
 ·exact .inl rfl
 ·exact .inr fun a ha=>by injection ha with ha;subst ha;exact hb
theorem okI_ofB {w:World}{B:Nat}(hB:B≤w.heap.size):(∀ e,OkA w B e→szE e→oneE e→OkI (fun b=>b < B) w e)∧(∀ d,OkAd w B d→szD d→oneD d→OkId (fun b=>b < B) w d)∧(∀ l,OkAs w B l→szEs l→yE4 l→OkIs (fun b=>b < B) w l)∧∀ l,OkAds w B l→szDs l→yL2 l→OkIds (fun b=>b < B) w l:=
 zX4 (fun _ _ _ _ _ _ _ _ _ _ _ _ _ _ _ h1 h2 h s o=>⟨h.1,zQ3 h.2.1 hB s.1,h1 h.2.2.1 s.2.1 o.1,zQ3 h.2.2.2.1 hB s.2.2.1,h2 h.2.2.2.2.1 s.2.2.2.1 o.2,zQ3 h.2.2.2.2.2 hB s.2.2.2.2⟩)
  (fun _ _ _ _ _ _ _ _ _ _ _ _ _ _ _ _ _ _ _ h1 h2 h s o=>⟨⟨h.1,o.1⟩,zQ3 h.2.1 hB s.1,h1 h.2.2.1 s.2.1 o.2.1,zQ3 h.2.2.2.1 hB s.2.2.1,h2 h.2.2.2.2.1 s.2.2.2.1 o.2.2,zQ3 h.2.2.2.2.2.1 hB s.2.2.2.2.1,zQ3 h.2.2.2.2.2.2 hB s.2.2.2.2.2⟩)
  (fun _ _ _=>trivial) (fun _ _ h1 h2 h s o=>⟨h1 h.1 s.1 o.1,h2 h.2 s.2 o.2⟩) (fun _ _ _=>trivial) (fun _ _ h1 h2 h s o=>⟨h1 h.1 s.1 o.1,h2 h.2 s.2 o.2⟩)
structure PkL (w:World)(p:PA):Prop where
 ok:OkP w w.heap.size p
 nf:p.files.length≤1048576
 sz:∀ f∈p.files,f.imps.length≤1048576∧f.decls.length≤1048576∧szDs f.decls∧f.tail.length≤1048576
 dp:∀ f∈p.files,dpDs (plDs f.decls)≤1099511627000
def zW5 (fs:List FA):List Tx:=fs.flatMap fun f=>zY2 f.decls
def zI4 (fs:List FA):List DA:=fs.flatMap fun f=>zZ7 f.decls
def zZ8 (fs:List FA):List Tx:=(zI4 fs).map lblD
def tagF:Nat→List FA→List (Nat × DA)
 | _,[]=>[]
 | j,f ::r=>(zZ7 f.decls).map (fun d=>(j,d))++tagF (j+1) r
def zX5 (fs:List FA):List (List Tx):=fs.map fun f=>f.imps.map (·.name)
theorem yY7 {fs:List FA}{i:Nat}(h:i < fs.length):zW5 (fs.take (i+1))=zW5 (fs.take i)++zY2 fs[i].decls:=by
 unfold zW5
 rw[List.take_succ_eq_append_getElem h]
 simp only[List.flatMap_append,List.flatMap_cons,List.flatMap_nil,List.append_nil]
theorem yY8 {fs:List FA}{i:Nat}(h:i < fs.length):zI4 (fs.take (i+1))=zI4 (fs.take i)++zZ7 fs[i].decls:=by
 unfold zI4
 rw[List.take_succ_eq_append_getElem h]
 simp only[List.flatMap_append,List.flatMap_cons,List.flatMap_nil,List.append_nil]
theorem zC1 {fs:List FA}{i:Nat}(h:i < fs.length):zZ8 (fs.take (i+1))=zZ8 (fs.take i)++(zZ7 fs[i].decls).map lblD:=by
 unfold zZ8
 rw[yY8 h,List.map_append]
theorem yJ6:∀ (l m:List FA)(j:Nat),tagF j (l++m)=tagF j l++tagF (j+l.length) m
 | [],m,j=>by simp[tagF]
 | f ::l,m,j=>by
   rw[List.cons_append,tagF,yJ6 l m (j+1),tagF,List.append_assoc,List.length_cons]
   congr 3
   omega
theorem xZ4 {fs:List FA}{i:Nat}(h:i < fs.length):tagF 0 (fs.take (i+1))=tagF 0 (fs.take i)++(zZ7 fs[i].decls).map fun d=>(i,d):=by
 rw[List.take_succ_eq_append_getElem h,yJ6]
 simp only[tagF,List.append_nil,List.length_take,Nat.zero_add]
 rw[Nat.min_eq_left (Nat.le_of_lt h)]
theorem zI5:∀ (l:List FA)(j:Nat),(tagF j l).map (·.2)=zI4 l
 | [],_=>rfl
 | f ::l,j=>by
   rw[tagF,List.map_append,zI5 l (j+1),List.map_map]
   have:((fun x:Nat × DA=>x.2) ∘ fun d=>(j,d))=id:=rfl
   rw[this,List.map_id]
   rfl
def okN (F N:List Tx)(l:List DA):Bool:=zT6 N ((zZ7 l).map lblD)&&(N++(zZ7 l).map lblD).all fun x=>!decide (x∈F++zY2 l)
theorem yU1 (F:List Tx)(L:List (Tx × Nat))(l:List DA):okD2 F L l=okN F (L.map (·.1)) l:=rfl
def twF (fs:List FA):Nat→Bool
 | 0=>false
 | i+1=>!okN (zW5 (fs.take i)) (zZ8 (fs.take i)) ((fs.map (·.decls)).getD i [])||(twF fs i|| !zT6 [] ((zX5 fs).getD i []))
def mptr (b:Nat):Value:=.map (some b)
theorem elMap:ElT Tryz.prog 83 103 1 8:=ElT.mk_ (z:=.map none) Tryz.underlying83 (by kernel_rfl) rfl (by decide)
section
variable {P:Program}{w:World}
theorem zQ4 {ops:Array Oper}{rest:List Oper}{o:Oper}{a:Act}{Q:Exit→Act→World→Prop}(hgd:o.guard=none)(s x:Operand)(t:TypeId)
  (ho:o.op=.call {callee:=.builtin .append,args:=#[s,x],argTypes:=#[t,t]})
  (base e size bytes:Nat)(hT:ElT P t e size bytes)(v:Value)(n:Nat)(xs:List Value)(hs:a.eval s=v)(hown:w.ownsRow base e size v n xs)
  (A:Option Addr)(m c:Nat)(news:List Value)(hx:a.eval x=.slice A m c)(hm:0 < m)(hsrc:Src w size A m news)(h1:∀ u∈news,u.oneCell'=true)
  (h63:n+m≤maxLen)(hbytes:(n+m)*bytes≤140737488355328)(hbase:base≤w.heap.size)
  (h:∀ v' w',w'.ownsRow base e size v' (n+m) (xs++news)→w.grownBy w' v.ownBlock→Below base w w'→(v'.ownBlock=v.ownBlock∨v'.ownBlock=some w.heap.size)→wpList P ops Q rest (a.put o.dst v') w'):wpList P ops Q (o ::rest) a w:=
 wpList_plain hgd fun _ hK=>by
  obtain⟨ht,hsz,i,z,hi,hz,hs',hby,hzs⟩:=hT
  obtain⟨ad,rfl,hc⟩:=hsrc.2 hm
  obtain⟨v',w',hr,h2,h3,h4,h5⟩:=run_append_own_at (P:=P) w base t o.type e i z size bytes ht hi hz hs' hby hzs hsz v n xs hown ad m c news hsrc.1 hc h1 h63 hbytes hbase
  unfold Oper.wp execOp
  simp only[ho,resolve,invoke,builtin,Sem.run_bind,Sem.run_pure,Result.andThen_ok,List.map_toArray,List.map_cons,List.map_nil,hs,hx,hr]
  exact hK _ _ (h v' w' h2 h3 ((Below.refl _ _).grown h3 hbase (fun k hk=>(hown.lt k hk).1)) h5)
end
theorem zS1 {w:World}{base e size n g:Nat}{v:Value}{xs:List Value}{ty:TypeId}{cs:Array Value}(h:w.ownsRow base e size v n xs)(hb:Blk w g ty cs)(hne:ty≠e):∀ b,v.ownBlock=some b→g≠b:=fun b hv hg=>by
 subst hg
 rcases h.2 with ⟨rfl,_⟩ | ⟨g',cap,cur,rfl,_,h4,_⟩
 ·cases hv
 ·simp only[Value.ownBlock,Option.some.injEq] at hv
  subst hv
  rw[hb] at h4
  injection h4 with h4
  injection h4 with _ h5
  exact hne h5
theorem zL2 {w:World}{base e size n b q:Nat}{v:Value}{xs:List Value}{α:Type}{P:Program}{k:TypeId}{T:KeyT P k α}{f:α→Option Value}(h:w.ownsRow base e size v n xs)(hm:OMap T w b q f):v.ownBlock≠some b:=fun hv=>by
 rcases h.2 with ⟨rfl,_⟩ | ⟨g',cap,cur,rfl,_,h4,_⟩
 ·cases hv
 ·simp only[Value.ownBlock,Option.some.injEq] at hv
  subst hv
  obtain⟨D,⟨es,clock,hb,r⟩,h2⟩:=hm
  rw[h4] at hb
  cases hb
theorem zR6 {w:World}{base e size n:Nat}{v:Value}{xs:List Value}(h:w.ownsRow base e size v n xs):∀ b,v.ownBlock=some b→base≤b∧b < w.heap.size:=fun b hv=>h.lt b hv
structure LdSt (w0:World)(p:PA)(r rt bF bL:Nat)(i:Nat)(bs:List Nat)(objs:List Ob)(iB uB:List Nat)(Vi Vu:Value)(tw:Bool)(zf:Value)(wx:World):Prop where
 lo:Below w0.heap.size w0 wx
 nr:w0.heap.size≤r
 nt:w0.heap.size≤rt
 rc:Blk wx r 86 #[.string ⟨p.path.toArray⟩,.slice p.A p.files.length p.c,.pointer (some ⟨rt,0,none⟩),Vi,Vu,.slice none 0 0,.bool tw,.bool false,zf]
 sc:Blk wx rt 122 #[.map (some bF),.map (some bL),.pointer none,.int .i64 0]
 hF:OMap KS wx bF (zW5 (p.files.take i)).length (fF (zW5 (p.files.take i)))
 hL:OMap KS wx bL ((zZ8 (p.files.take i)).zip bs).length (fL ((zZ8 (p.files.take i)).zip bs))
 ln:bs.length=(zI4 (p.files.take i)).length
 pw:bs.Pairwise (· < ·)
 lt:∀ b∈bs,w0.heap.size≤b∧b < wx.heap.size
 ob:∀ o∈objs,Blk wx o.blk 102 (obV o)
 o1:objs.map (·.blk)=bs
 o2:objs.map (fun o=>(o.file,o.d))=tagF 0 (p.files.take i)
 o3:∀ o∈objs,o=zL4 o.blk rt o.file zO0 o.d
 im:∀ (j:Nat) (h:j < iB.length),OMap KS wx iB[j] ((zX5 p.files).getD j []).length (fF ((zX5 p.files).getD j []))
 um:∀ (j:Nat) (h:j < uB.length),OMap KS wx uB[j] 0 (fF [])
 mn:(bF ::bL ::(iB++uB)).Nodup
 ml:∀ b∈bF ::bL ::(iB++uB),w0.heap.size≤b
 vi:wx.ownsRow w0.heap.size 103 1 Vi iB.length (iB.map mptr)
 vu:wx.ownsRow w0.heap.size 103 1 Vu uB.length (uB.map mptr)
 vn:∀ b,Vi.ownBlock=some b→Vu.ownBlock≠some b
section
variable {w0:World}{p:PA}{r rt bF bL i:Nat}{bs:List Nat}{objs:List Ob}{iB uB:List Nat}{Vi Vu zf:Value}{tw:Bool}{wx wy:World}{N:Nat→Prop}
def yU2 (r rt bF bL:Nat)(bs iB uB:List Nat)(Vi Vu:Value)(b:Nat):Prop:=b=r∨b=rt∨b∈bF ::bL ::(iB++uB)∨b∈bs∨Vi.ownBlock=some b∨Vu.ownBlock=some b
theorem LdSt.mapLt (h:LdSt w0 p r rt bF bL i bs objs iB uB Vi Vu tw zf wx):∀ b∈bF ::bL ::(iB++uB),b < wx.heap.size:=fun b hb=>by
 simp only[List.mem_cons,List.mem_append] at hb
 rcases hb with rfl | rfl | hb | hb
 ·exact h.hF.lt
 ·exact h.hL.lt
 ·obtain⟨j,hj,rfl⟩:=List.mem_iff_getElem.1 hb
  exact(h.im j hj).lt
 ·obtain⟨j,hj,rfl⟩:=List.mem_iff_getElem.1 hb
  exact(h.um j hj).lt
theorem LdSt.own_lt (h:LdSt w0 p r rt bF bL i bs objs iB uB Vi Vu tw zf wx):∀ b,yU2 r rt bF bL bs iB uB Vi Vu b→b < wx.heap.size:=fun b hb=>by
 rcases hb with rfl | rfl | hb | hb | hb | hb
 ·exact h.rc.lt
 ·exact h.sc.lt
 ·exact h.mapLt b hb
 ·exact(h.lt b hb).2
 ·exact(zR6 h.vi b hb).2
 ·exact(zR6 h.vu b hb).2
theorem LdSt.blkNeMap (h:LdSt w0 p r rt bF bL i bs objs iB uB Vi Vu tw zf wx){g:Nat}{ty:TypeId}{cs:Array Value}(hb:Blk wx g ty cs):∀ b∈bF ::bL ::(iB++uB),g≠b:=fun b hm=>by
 simp only[List.mem_cons,List.mem_append] at hm
 rcases hm with rfl | rfl | hm | hm
 ·exact zY5 hb h.hF
 ·exact zY5 hb h.hL
 ·obtain⟨j,hj,rfl⟩:=List.mem_iff_getElem.1 hm
  exact zY5 hb (h.im j hj)
 ·obtain⟨j,hj,rfl⟩:=List.mem_iff_getElem.1 hm
  exact zY5 hb (h.um j hj)
theorem LdSt.rowNeMap (h:LdSt w0 p r rt bF bL i bs objs iB uB Vi Vu tw zf wx){base e size n:Nat}{v:Value}{xs:List Value}(hb:wx.ownsRow base e size v n xs):∀ b∈bF ::bL ::(iB++uB),v.ownBlock≠some b:=fun b hm=>by
 simp only[List.mem_cons,List.mem_append] at hm
 rcases hm with rfl | rfl | hm | hm
 ·exact zL2 hb h.hF
 ·exact zL2 hb h.hL
 ·obtain⟨j,hj,rfl⟩:=List.mem_iff_getElem.1 hm
  exact zL2 hb (h.im j hj)
 ·obtain⟨j,hj,rfl⟩:=List.mem_iff_getElem.1 hm
  exact zL2 hb (h.um j hj)
theorem LdSt.blkLet (h:LdSt w0 p r rt bF bL i bs objs iB uB Vi Vu tw zf wx){b:Nat}(hb:b∈bs):∃ cs,Blk wx b 102 cs:=by
 rw[←h.o1] at hb
 obtain⟨o,ho,rfl⟩:=List.mem_map.1 hb
 exact⟨_,h.ob o ho⟩
theorem LdSt.rowI (h:LdSt w0 p r rt bF bL i bs objs iB uB Vi Vu tw zf wx){b:Nat}(hb:Vi.ownBlock=some b):r≠b∧rt≠b∧(∀ m∈bF ::bL ::(iB++uB),m≠b)∧(∀ m∈bs,m≠b):=
 ⟨zS1 h.vi h.rc (by decide) b hb,zS1 h.vi h.sc (by decide) b hb,fun m hm e=>h.rowNeMap h.vi m hm (e▸hb),fun m hm=>by
  obtain⟨cs,hc⟩:=h.blkLet hm
  exact zS1 h.vi hc (by decide) b hb⟩
theorem LdSt.rowU (h:LdSt w0 p r rt bF bL i bs objs iB uB Vi Vu tw zf wx){b:Nat}(hb:Vu.ownBlock=some b):r≠b∧rt≠b∧(∀ m∈bF ::bL ::(iB++uB),m≠b)∧(∀ m∈bs,m≠b):=
 ⟨zS1 h.vu h.rc (by decide) b hb,zS1 h.vu h.sc (by decide) b hb,fun m hm e=>h.rowNeMap h.vu m hm (e▸hb),fun m hm=>by
  obtain⟨cs,hc⟩:=h.blkLet hm
  exact zS1 h.vu hc (by decide) b hb⟩
theorem LdSt.low (h:LdSt w0 p r rt bF bL i bs objs iB uB Vi Vu tw zf wx)(hk:Kp N wx wy)(hN:∀ b,N b→w0.heap.size≤b):Below w0.heap.size w0 wy:=h.lo.trans (hk.toBelow h.lo.size fun i hi hn=>by have:=hN i hn;omega)
theorem LdSt.kept (h:LdSt w0 p r rt bF bL i bs objs iB uB Vi Vu tw zf wx)(hk:Kp N wx wy)(hN:∀ b,N b→w0.heap.size≤b∧¬ yU2 r rt bF bL bs iB uB Vi Vu b):LdSt w0 p r rt bF bL i bs objs iB uB Vi Vu tw zf wy:=by
 have hn:∀ b,yU2 r rt bF bL bs iB uB Vi Vu b→¬ N b:=fun b hb hn=>(hN b hn).2 hb
 have hm:∀ b∈bF ::bL ::(iB++uB),¬ N b:=fun b hb=>hn b (.inr (.inr (.inl hb)))
 refine⟨h.low hk fun b hb=>(hN b hb).1,h.nr,h.nt,hk.blk h.rc (hn _ (.inl rfl)),hk.blk h.sc (hn _ (.inr (.inl rfl))),h.hF.keptK hk (hm _ (by simp)),h.hL.keptK hk (hm _ (by simp)),h.ln,h.pw,fun b hb=>⟨(h.lt b hb).1,Nat.lt_of_lt_of_le (h.lt b hb).2 hk.size⟩,fun o ho=>hk.blk (h.ob o ho) (hn _ (.inr (.inr (.inr (.inl (h.o1▸List.mem_map.2 ⟨o,ho,rfl⟩)))))),h.o1,h.o2,h.o3,
  fun j hj=>(h.im j hj).keptK hk (hm _ ?_),fun j hj=>(h.um j hj).keptK hk (hm _ ?_),h.mn,h.ml,zV5 h.vi hk fun b hb=>hn _ (.inr (.inr (.inr (.inr (.inl hb))))),zV5 h.vu hk fun b hb=>hn _ (.inr (.inr (.inr (.inr (.inr hb))))),h.vn⟩
 ·have:=List.getElem_mem hj
  simp[this]
 ·have:=List.getElem_mem hj
  simp[this]
theorem LdSt.below (h:LdSt w0 p r rt bF bL i bs objs iB uB Vi Vu tw zf wx)(hb:Below wx.heap.size wx wy):LdSt w0 p r rt bF bL i bs objs iB uB Vi Vu tw zf wy:=
 h.kept (N:=fun _=>False) (Kp.ofBelow hb _) (fun _ h=>h.elim)
theorem LdSt.flag (h:LdSt w0 p r rt bF bL i bs objs iB uB Vi Vu tw zf wx)(tw':Bool):LdSt w0 p r rt bF bL i bs objs iB uB Vi Vu tw' zf (wx.setCell ⟨r,6,none⟩ (.bool tw')):=by
 have hk:Kp (· = r) wx (wx.setCell ⟨r,6,none⟩ (.bool tw')):=(Kp.refl (· = r) wx).setCell (p:=⟨r,6,none⟩) rfl _
 have hm:∀ b∈bF ::bL ::(iB++uB),¬ b=r:=fun b hb e=>h.blkNeMap h.rc b hb e.symm
 refine⟨h.low hk fun b hb=>by subst hb;exact h.nr,h.nr,h.nt,by simpa using h.rc.set_ 6 (.bool tw'),hk.blk h.sc (zS7 h.sc h.rc (by decide)),h.hF.keptK hk (hm _ (by simp)),h.hL.keptK hk (hm _ (by simp)),h.ln,h.pw,fun b hb=>⟨(h.lt b hb).1,Nat.lt_of_lt_of_le (h.lt b hb).2 hk.size⟩,fun o ho=>hk.blk (h.ob o ho) (zS7 (h.ob o ho) h.rc (by decide)),h.o1,h.o2,h.o3,
  fun j hj=>(h.im j hj).keptK hk (hm _ ?_),fun j hj=>(h.um j hj).keptK hk (hm _ ?_),h.mn,h.ml,zV5 h.vi hk fun b hb e=>(h.rowI hb).1 e.symm,zV5 h.vu hk fun b hb e=>(h.rowU hb).1 e.symm,h.vn⟩
 ·have:=List.getElem_mem hj
  simp[this]
 ·have:=List.getElem_mem hj
  simp[this]
theorem LdSt.pushI (h:LdSt w0 p r rt bF bL i bs objs iB uB Vi Vu tw zf wx){mB:Nat}(hO:OMap KS wx mB ((zX5 p.files).getD iB.length []).length (fF ((zX5 p.files).getD iB.length [])))(hm0:w0.heap.size≤mB)(hmn:¬ yU2 r rt bF bL bs iB uB Vi Vu mB){o:Obj}{Vi':Value}
  (hown:wy.ownsRow w0.heap.size 103 1 Vi' (iB.length+1) (iB.map mptr++ [mptr mB]))(hg:(wx.alloc o).grownBy wy Vi.ownBlock)(hob:Vi'.ownBlock=Vi.ownBlock∨Vi'.ownBlock=some (wx.alloc o).heap.size) :
  LdSt w0 p r rt bF bL i bs objs (iB++ [mB]) uB Vi' Vu tw zf (wy.setCell ⟨r,3,none⟩ Vi'):=by
 have hk1:Kp (fun b=>Vi.ownBlock=some b) wx wy:=((Kp.refl _ wx).alloc o).grown hg fun k hk=>.inl hk
 have hk:Kp (fun b=>Vi.ownBlock=some b∨b=r) wx (wy.setCell ⟨r,3,none⟩ Vi'):=(hk1.mono fun _ h=>.inl h).setCell (p:=⟨r,3,none⟩) (.inr rfl) _
 have hk3:Kp (· = r) wy (wy.setCell ⟨r,3,none⟩ Vi'):=(Kp.refl (· = r) wy).setCell (p:=⟨r,3,none⟩) rfl _
 have hm:∀ b∈bF ::bL ::(iB++uB),¬ (Vi.ownBlock=some b∨b=r):=fun b hb e=>by
  rcases e with e | e
  ·exact(h.rowI e).2.2.1 b hb rfl
  ·exact h.blkNeMap h.rc b hb e.symm
 have hmB:¬ (Vi.ownBlock=some mB∨mB=r):=fun e=>by
  rcases e with e | e
  ·exact hmn (.inr (.inr (.inr (.inr (.inl e)))))
  ·exact hmn (.inl e)
 have hrc1:=hk1.blk h.rc (fun e=>(h.rowI e).1 rfl)
 have hrow:∀ b,Vi'.ownBlock=some b→r≠b:=zS1 hown hrc1 (by decide)
 refine⟨h.low hk fun b hb=>?_,h.nr,h.nt,by simpa using hrc1.set_ 3 Vi',hk.blk h.sc (fun e=>e.elim (fun e=>(h.rowI e).2.1 rfl) fun e=>zS7 h.sc h.rc (by decide) e),h.hF.keptK hk (hm _ (by simp)),h.hL.keptK hk (hm _ (by simp)),h.ln,h.pw,fun b hb=>⟨(h.lt b hb).1,Nat.lt_of_lt_of_le (h.lt b hb).2 hk.size⟩,fun o ho=>hk.blk (h.ob o ho) (fun e=>?_),h.o1,h.o2,h.o3,
  fun j hj=>?_,fun j hj=>(h.um j hj).keptK hk (hm _ ?_),?_,fun b hb=>?_,?_,?_,fun b hb hb2=>?_⟩
 ·rcases hb with e | rfl
  ·exact(zR6 h.vi b e).1
  ·exact h.nr
 ·rcases e with e | e
  ·exact(h.rowI e).2.2.2 _ (h.o1▸List.mem_map.2 ⟨o,ho,rfl⟩) rfl
  ·exact zS7 (h.ob o ho) h.rc (by decide) e
 ·rw[List.length_append,List.length_singleton] at hj
  by_cases hjl:j < iB.length
  ·rw[List.getElem_append_left hjl]
   have:=List.getElem_mem hjl
   exact(h.im j hjl).keptK hk (hm _ (by simp[this]))
  ·obtain rfl:j=iB.length:=by omega
   rw[List.getElem_concat_length rfl]
   exact hO.keptK hk hmB
 ·have:=List.getElem_mem hj
  simp[this]
 ·have h1:=h.mn
  have h2:mB∉bF ::bL ::(iB++uB):=fun e=>hmn (.inr (.inr (.inl e)))
  have hp:(bF ::bL ::(iB++ [mB]++uB)).Perm (mB ::(bF ::bL ::(iB++uB))):=by
   have:(iB++ [mB]++uB).Perm (mB ::(iB++uB)):=by simp
   exact((this.cons bL).cons bF).trans (((List.Perm.swap mB bL _).cons bF).trans (List.Perm.swap mB bF _))
  exact hp.nodup_iff.2 (List.nodup_cons.2 ⟨h2,h1⟩)
 ·simp only[List.mem_cons,List.mem_append] at hb
  rcases hb with rfl | rfl | (hb | rfl | hb) | hb
  ·exact h.ml _ (by simp)
  ·exact h.ml _ (by simp)
  ·exact h.ml _ (by simp[hb])
  ·exact hm0
  ·cases hb
  ·exact h.ml _ (by simp[hb])
 ·rw[List.length_append,List.map_append]
  exact zV5 hown hk3 fun b hb e=>hrow b hb e.symm
 ·exact zV5 h.vu hk fun b hb e=>e.elim (fun e=>h.vn b e hb) fun e=>(h.rowU hb).1 e.symm
 ·rcases hob with e | e
  ·exact h.vn b (e▸hb) hb2
  ·have:=(zR6 h.vu b hb2).2
   rw[e] at hb
   injection hb with hb
   simp only[World.size_alloc] at hb
   omega
theorem LdSt.pushU (h:LdSt w0 p r rt bF bL i bs objs iB uB Vi Vu tw zf wx){mB:Nat}(hO:OMap KS wx mB 0 (fF []))(hm0:w0.heap.size≤mB)(hmn:¬ yU2 r rt bF bL bs iB uB Vi Vu mB){o:Obj}{Vu':Value}
  (hown:wy.ownsRow w0.heap.size 103 1 Vu' (uB.length+1) (uB.map mptr++ [mptr mB]))(hg:(wx.alloc o).grownBy wy Vu.ownBlock)(hob:Vu'.ownBlock=Vu.ownBlock∨Vu'.ownBlock=some (wx.alloc o).heap.size) :
  LdSt w0 p r rt bF bL i bs objs iB (uB++ [mB]) Vi Vu' tw zf (wy.setCell ⟨r,4,none⟩ Vu'):=by
 have hk1:Kp (fun b=>Vu.ownBlock=some b) wx wy:=((Kp.refl _ wx).alloc o).grown hg fun k hk=>.inl hk
 have hk:Kp (fun b=>Vu.ownBlock=some b∨b=r) wx (wy.setCell ⟨r,4,none⟩ Vu'):=(hk1.mono fun _ h=>.inl h).setCell (p:=⟨r,4,none⟩) (.inr rfl) _
 have hk3:Kp (· = r) wy (wy.setCell ⟨r,4,none⟩ Vu'):=(Kp.refl (· = r) wy).setCell (p:=⟨r,4,none⟩) rfl _
 have hm:∀ b∈bF ::bL ::(iB++uB),¬ (Vu.ownBlock=some b∨b=r):=fun b hb e=>by
  rcases e with e | e
  ·exact(h.rowU e).2.2.1 b hb rfl
  ·exact h.blkNeMap h.rc b hb e.symm
 have hmB:¬ (Vu.ownBlock=some mB∨mB=r):=fun e=>by
  rcases e with e | e
  ·exact hmn (.inr (.inr (.inr (.inr (.inr e)))))
  ·exact hmn (.inl e)
 have hrc1:=hk1.blk h.rc (fun e=>(h.rowU e).1 rfl)
 have hrow:∀ b,Vu'.ownBlock=some b→r≠b:=zS1 hown hrc1 (by decide)
 refine⟨h.low hk fun b hb=>?_,h.nr,h.nt,by simpa using hrc1.set_ 4 Vu',hk.blk h.sc (fun e=>e.elim (fun e=>(h.rowU e).2.1 rfl) fun e=>zS7 h.sc h.rc (by decide) e),h.hF.keptK hk (hm _ (by simp)),h.hL.keptK hk (hm _ (by simp)),h.ln,h.pw,fun b hb=>⟨(h.lt b hb).1,Nat.lt_of_lt_of_le (h.lt b hb).2 hk.size⟩,fun o ho=>hk.blk (h.ob o ho) (fun e=>?_),h.o1,h.o2,h.o3,
  fun j hj=>(h.im j hj).keptK hk (hm _ ?_),fun j hj=>?_,?_,fun b hb=>?_,?_,?_,fun b hb hb2=>?_⟩
 ·rcases hb with e | rfl
  ·exact(zR6 h.vu b e).1
  ·exact h.nr
 ·rcases e with e | e
  ·exact(h.rowU e).2.2.2 _ (h.o1▸List.mem_map.2 ⟨o,ho,rfl⟩) rfl
  ·exact zS7 (h.ob o ho) h.rc (by decide) e
 ·have:=List.getElem_mem hj
  simp[this]
 ·rw[List.length_append,List.length_singleton] at hj
  by_cases hjl:j < uB.length
  ·rw[List.getElem_append_left hjl]
   have:=List.getElem_mem hjl
   exact(h.um j hjl).keptK hk (hm _ (by simp[this]))
  ·obtain rfl:j=uB.length:=by omega
   rw[List.getElem_concat_length rfl]
   exact hO.keptK hk hmB
 ·have h1:=h.mn
  have h2:mB∉bF ::bL ::(iB++uB):=fun e=>hmn (.inr (.inr (.inl e)))
  have hp:(bF ::bL ::(iB++(uB++ [mB]))).Perm (mB ::(bF ::bL ::(iB++uB))):=by
   have:(iB++(uB++ [mB])).Perm (mB ::(iB++uB)):=by
    rw[←List.append_assoc]
    exact List.perm_append_comm
   exact((this.cons bL).cons bF).trans (((List.Perm.swap mB bL _).cons bF).trans (List.Perm.swap mB bF _))
  exact hp.nodup_iff.2 (List.nodup_cons.2 ⟨h2,h1⟩)
 ·simp only[List.mem_cons,List.mem_append] at hb
  rcases hb with rfl | rfl | hb | (hb | rfl | hb)
  ·exact h.ml _ (by simp)
  ·exact h.ml _ (by simp)
  ·exact h.ml _ (by simp[hb])
  ·exact h.ml _ (by simp[hb])
  ·exact hm0
  ·cases hb
 ·exact zV5 h.vi hk fun b hb e=>e.elim (fun e=>h.vn b hb e) fun e=>(h.rowI hb).1 e.symm
 ·rw[List.length_append,List.map_append]
  exact zV5 hown hk3 fun b hb e=>hrow b hb e.symm
 ·rcases hob with e | e
  ·exact h.vn b hb (e▸hb2)
  ·have:=(zR6 h.vi b hb).2
   rw[e] at hb2
   injection hb2 with hb2
   simp only[World.size_alloc] at hb2
   omega
theorem LdSt.rcI (h:LdSt w0 p r rt bF bL i bs objs iB uB Vi Vu tw zf wx){o:Obj}(hg:(wx.alloc o).grownBy wy Vi.ownBlock):Blk wy r 86 #[.string ⟨p.path.toArray⟩,.slice p.A p.files.length p.c,.pointer (some ⟨rt,0,none⟩),Vi,Vu,.slice none 0 0,.bool tw,.bool false,zf]:=
 (((Kp.refl (fun b=>Vi.ownBlock=some b) wx).alloc o).grown hg fun _ hk=>.inl hk).blk h.rc (fun e=>(h.rowI e).1 rfl)
theorem LdSt.boxI (h:LdSt w0 p r rt bF bL i bs objs iB uB Vi Vu tw zf wx){o:Obj}(hg:(wx.alloc o).grownBy wy Vi.ownBlock){g:Nat}{ty:TypeId}{cs:Array Value}(hb:Blk wx g ty cs)(hne:ty≠86∧ty≠103)(v:Value):Blk (wy.setCell ⟨r,3,none⟩ v) g ty cs:=
 ((((Kp.refl (fun b=>Vi.ownBlock=some b) wx).alloc o).grown hg fun _ hk=>.inl hk).blk hb (fun e=>zS1 h.vi hb hne.2 _ e rfl)).far (zS7 hb h.rc hne.1) v
theorem LdSt.rcU (h:LdSt w0 p r rt bF bL i bs objs iB uB Vi Vu tw zf wx){o:Obj}(hg:(wx.alloc o).grownBy wy Vu.ownBlock):Blk wy r 86 #[.string ⟨p.path.toArray⟩,.slice p.A p.files.length p.c,.pointer (some ⟨rt,0,none⟩),Vi,Vu,.slice none 0 0,.bool tw,.bool false,zf]:=
 (((Kp.refl (fun b=>Vu.ownBlock=some b) wx).alloc o).grown hg fun _ hk=>.inl hk).blk h.rc (fun e=>(h.rowU e).1 rfl)
theorem LdSt.boxU (h:LdSt w0 p r rt bF bL i bs objs iB uB Vi Vu tw zf wx){o:Obj}(hg:(wx.alloc o).grownBy wy Vu.ownBlock){g:Nat}{ty:TypeId}{cs:Array Value}(hb:Blk wx g ty cs)(hne:ty≠86∧ty≠103)(v:Value):Blk (wy.setCell ⟨r,4,none⟩ v) g ty cs:=
 ((((Kp.refl (fun b=>Vu.ownBlock=some b) wx).alloc o).grown hg fun _ hk=>.inl hk).blk hb (fun e=>zS1 h.vu hb hne.2 _ e rfl)).far (zS7 hb h.rc hne.1) v
theorem LdSt.decl (h:LdSt w0 p r rt bF bL i bs objs iB uB Vi Vu tw zf wx)(hi:i < p.files.length){bs':List Nat}(hD:DcSt wx rt bF bL i (zW5 (p.files.take i)) ((zZ8 (p.files.take i)).zip bs) p.files[i].decls bs' wy) :
  LdSt w0 p r rt bF bL (i+1) (bs++bs') (objs++zW8 bs' (zZ7 p.files[i].decls) rt i) iB uB Vi Vu tw zf wy:=by
 have hk:=hD.hk
 have hm:∀ b∈iB++uB,¬ (b=bF∨b=bL):=fun b hb e=>by
  have h1:=h.mn
  rw[List.nodup_cons,List.nodup_cons] at h1
  rcases e with rfl | rfl
  ·exact h1.1 (by simp only[List.mem_cons];exact .inr hb)
  ·exact h1.2.1 hb
 have hlt:=h.mapLt
 have hnm:(zZ8 (p.files.take i)).length=bs.length:=by rw[h.ln,zZ8,List.length_map]
 have hz:(zZ8 (p.files.take i)).zip bs++((zZ7 p.files[i].decls).map lblD).zip bs'=(zZ8 (p.files.take (i+1))).zip (bs++bs'):=by
  rw[zC1 hi,List.zip_append hnm]
 refine⟨h.low hk fun b hb=>?_,h.nr,h.nt,hk.blk h.rc fun e=>?_,hk.blk h.sc fun e=>?_,?_,?_,?_,?_,fun b hb=>?_,fun o ho=>?_,?_,?_,fun o ho=>?_,fun j hj=>(h.im j hj).keptK hk (hm _ ?_),fun j hj=>(h.um j hj).keptK hk (hm _ ?_),h.mn,h.ml,zV5 h.vi hk fun b hb e=>?_,zV5 h.vu hk fun b hb e=>?_,h.vn⟩
 ·rcases hb with rfl | rfl <;> exact h.ml _ (by simp)
 ·rcases e with e | e
  ·exact h.blkNeMap h.rc bF (by simp) e
  ·exact h.blkNeMap h.rc bL (by simp) e
 ·rcases e with e | e
  ·exact h.blkNeMap h.sc bF (by simp) e
  ·exact h.blkNeMap h.sc bL (by simp) e
 ·rw[yY7 hi]
  exact hD.hf
 ·have h1:=hD.hl
  rw[hz] at h1
  have h2:((zZ8 (p.files.take i)).zip bs).length+bs'.length=((zZ8 (p.files.take (i+1))).zip (bs++bs')).length:=by
   rw[←hz,List.length_append]
   simp[hD.len]
  rw[h2] at h1
  exact h1
 ·rw[yY8 hi,List.length_append,List.length_append,h.ln,hD.len]
 ·rw[List.pairwise_append]
  exact⟨h.pw,hD.hp,fun a ha b hb=>Nat.lt_of_lt_of_le (h.lt a ha).2 (hD.hn b hb).1⟩
 ·rcases List.mem_append.1 hb with hb | hb
  ·exact⟨(h.lt b hb).1,Nat.lt_of_lt_of_le (h.lt b hb).2 hk.size⟩
  ·exact⟨Nat.le_trans h.lo.size (hD.hn b hb).1,(hD.hn b hb).2⟩
 ·rcases List.mem_append.1 ho with ho | ho
  ·refine hk.blk (h.ob o ho) fun e=>?_
   rcases e with e | e
   ·exact h.blkNeMap (h.ob o ho) bF (by simp) e
   ·exact h.blkNeMap (h.ob o ho) bL (by simp) e
  ·obtain⟨q,hq,rfl⟩:=List.mem_map.1 ho
   rw[zC0]
   exact hD.hb q hq
 ·rw[List.map_append,h.o1]
  congr 1
  unfold zW8
  rw[List.map_map]
  have:((fun x:Ob=>x.blk) ∘ fun p:Nat × DA=>zL4 p.1 rt i zO0 p.2)=Prod.fst:=rfl
  rw[this,List.map_fst_zip (by have:=hD.len;omega)]
 ·rw[List.map_append,h.o2,xZ4 hi]
  congr 1
  unfold zW8
  rw[List.map_map]
  have e1:((fun o:Ob=>(o.file,o.d)) ∘ fun p:Nat × DA=>zL4 p.1 rt i zO0 p.2)=(fun d=>(i,d)) ∘ Prod.snd:=rfl
  rw[e1,←List.map_map,List.map_snd_zip (by have:=hD.len;omega)]
 ·rcases List.mem_append.1 ho with ho | ho
  ·exact h.o3 o ho
  ·obtain⟨q,hq,rfl⟩:=List.mem_map.1 ho
   rfl
 ·have:=List.getElem_mem hj
  simp[this]
 ·have:=List.getElem_mem hj
  simp[this]
 ·rcases e with rfl | rfl
  ·exact h.rowNeMap h.vi b (by simp) hb
  ·exact h.rowNeMap h.vi b (by simp) hb
 ·rcases e with rfl | rfl
  ·exact h.rowNeMap h.vu b (by simp) hb
  ·exact h.rowNeMap h.vu b (by simp) hb
end
end Go.Proofs.YtdgehhgjgifikaaGreatDoor
