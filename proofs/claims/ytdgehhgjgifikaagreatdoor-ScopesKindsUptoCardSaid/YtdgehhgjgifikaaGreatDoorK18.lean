/- What the claim needs of:ZD ZE ZF. -/
import Derived.Test.YtdgehhgjgifikaaGreatDoorK17
namespace Go.Proofs.YtdgehhgjgifikaaGreatDoor
open Go.RowKit
mutual
def szE:EA→Prop
 | .mk _ _ _ _ _ _ _ subs _ _ decls _ _ tail _=>subs.length≤1048576∧szEs subs∧decls.length≤1048576∧szDs decls∧tail.length≤1048576
def szEs:List EA→Prop
 | []=>True
 | x ::l=>szE x∧szEs l
def szD:DA→Prop
 | .mk _ _ _ _ _ _ _ subs _ _ body _ _ tail _ _ lead _ _=>subs.length≤1048576∧szEs subs∧body.length≤1048576∧szDs body∧tail.length≤1048576∧lead.length≤1048576
def szDs:List DA→Prop
 | []=>True
 | x ::l=>szD x∧szDs l
end
mutual
def oneE:EA→Prop
 | .mk _ _ _ _ _ _ _ subs _ _ decls _ _ _ _=>yC4 subs∧yJ1 decls
def yC4:List EA→Prop
 | []=>True
 | x ::l=>oneE x∧yC4 l
def oneD:DA→Prop
 | .mk k _ _ _ _ _ _ subs _ _ body _ _ _ _ _ _ _ _=>(k=4→subs.length=1)∧yC4 subs∧yJ1 body
def yJ1:List DA→Prop
 | []=>True
 | x ::l=>oneD x∧yJ1 l
end
theorem plEs_len (l:List EA):(plEs l).length=l.length:=by rw[zX9,List.length_map]
theorem plDs_len (l:List DA):(plDs l).length=l.length:=by rw[zX3,List.length_map]
theorem one_of (rx:Tx→Bool):(∀ e,∀ cj mk ea,okE rx (plE e) cj mk ea=true→oneE e)∧(∀ d,∀ top,okD rx top (plD d)=true→oneD d)∧(∀ l,(∀ cj mk li la,okEs rx cj mk li la (plEs l)=true→yC4 l)∧∀ cj,okDE rx cj (plEs l)=true→yC4 l)∧∀ l,∀ top,okDs rx top (plDs l)=true→yJ1 l:=
 zY9 (fun k t n a b As cs subs Ad cd decls At ct tail pos h1 h2 cj mk ea h=>by
   rw[plE,okE] at h;simp only[Bool.and_eq_true] at h;exact⟨h1.1 _ _ _ _ h.1.2,h2 _ h.2⟩)
  (fun k p l a b As cs subs Ab cb body At ct tail Al cl lead tr pos h1 h2 top h=>by
   rw[plD,okD] at h;simp only[Bool.and_eq_true] at h;refine⟨fun hk=>?_,h1.2 _ h.2,h2 _ h.1.2⟩;have hs:=h.1.1.1;subst hk;unfold yP6 at hs;simp only[Bool.and_eq_true,plEs_len] at hs;simpa using hs.1.1.1.1.2)
  ⟨fun _ _ _ _ _=>trivial,fun _ _=>trivial⟩
  (fun e l h1 h2=>⟨fun cj mk li la h=>by
    rw[plEs,okEs,Bool.and_eq_true] at h;exact⟨h1 _ _ _ h.1,h2.1 _ _ _ _ h.2⟩,fun cj h=>by
    rw[plEs,okDE,Bool.and_eq_true] at h;exact⟨h1 _ _ _ h.1,h2.2 _ h.2⟩⟩)
  (fun _ _=>trivial)
  (fun d l h1 h2 top h=>by
   rw[plDs,okDs,Bool.and_eq_true] at h;exact⟨h1 _ h.1,h2 _ h.2⟩)
theorem h_dp:(∀ e,hE e=dpE (plE e))∧(∀ d,hD d=dpD (plD d))∧(∀ l,hEs l=dpEs (plEs l))∧∀ l,hDs l=dpDs (plDs l):=
 zY9 (fun k t n a b As cs subs Ad cd decls At ct tail pos h1 h2=>by rw[hE,plE,dpE,h1,h2];omega)
  (fun k p l a b As cs subs Ab cb body At ct tail Al cl lead tr pos h1 h2=>by rw[hD,plD,dpD,h1,h2];omega)
  rfl (fun e l h1 h2=>by rw[hEs,plEs,dpEs,h1,h2]) rfl (fun e l h1 h2=>by rw[hDs,plDs,dpDs,h1,h2])
theorem zQ5 {α:Type}{w:World}{B k:Nat}{enc:α→List Value}{A:Option Addr}{l:List α}(h:SlN w B k enc A l)(hB:B≤w.heap.size)(hl:l.length≤1048576):SlI (fun b=>b < B) w k enc A l:=by
 refine⟨h.1.more hB,hl,?_⟩;rcases h.1 with rfl | ⟨b,o,rfl,hb,_⟩
 ·exact .inl rfl
 ·exact .inr fun a ha=>by injection ha with ha;subst ha;exact hb
theorem okI_ofB {w:World}{B:Nat}(hB:B≤w.heap.size):(∀ e,OkA w B e→szE e→oneE e→OkI (fun b=>b < B) w e)∧(∀ d,OkAd w B d→szD d→oneD d→OkId (fun b=>b < B) w d)∧(∀ l,OkAs w B l→szEs l→yC4 l→OkIs (fun b=>b < B) w l)∧∀ l,OkAds w B l→szDs l→yJ1 l→OkIds (fun b=>b < B) w l:=
 zY9 (fun _ _ _ _ _ _ _ _ _ _ _ _ _ _ _ h1 h2 h s o=>⟨h.1,zQ5 h.2.1 hB s.1,h1 h.2.2.1 s.2.1 o.1,zQ5 h.2.2.2.1 hB s.2.2.1,h2 h.2.2.2.2.1 s.2.2.2.1 o.2,zQ5 h.2.2.2.2.2 hB s.2.2.2.2⟩)
  (fun _ _ _ _ _ _ _ _ _ _ _ _ _ _ _ _ _ _ _ h1 h2 h s o=>⟨⟨h.1,o.1⟩,zQ5 h.2.1 hB s.1,h1 h.2.2.1 s.2.1 o.2.1,zQ5 h.2.2.2.1 hB s.2.2.1,h2 h.2.2.2.2.1 s.2.2.2.1 o.2.2,zQ5 h.2.2.2.2.2.1 hB s.2.2.2.2.1,zQ5 h.2.2.2.2.2.2 hB s.2.2.2.2.2⟩)
  (fun _ _ _=>trivial) (fun _ _ h1 h2 h s o=>⟨h1 h.1 s.1 o.1,h2 h.2 s.2 o.2⟩) (fun _ _ _=>trivial) (fun _ _ h1 h2 h s o=>⟨h1 h.1 s.1 o.1,h2 h.2 s.2 o.2⟩)
structure PkL (w:World)(p:PA):Prop where
 ok:OkP w w.heap.size p
 nf:p.files.length≤1048576
 sz:∀ f∈p.files,f.imps.length≤1048576∧f.decls.length≤1048576∧szDs f.decls∧f.tail.length≤1048576
 dp:∀ f∈p.files,dpDs (plDs f.decls)≤1099511627000
def zV0 (fs:List FA):List Tx:=fs.flatMap fun f=>zZ9 f.decls
def zG3 (fs:List FA):List DA:=fs.flatMap fun f=>zZ7 f.decls
def zZ8 (fs:List FA):List Tx:=(zG3 fs).map lblD
def tagF:Nat→List FA→List (Nat × DA)
 | _,[]=>[]
 | j,f ::r=>(zZ7 f.decls).map (fun d=>(j,d))++tagF (j+1) r
def zX7 (fs:List FA):List (List Tx):=fs.map fun f=>f.imps.map (·.name)
theorem yW1 {fs:List FA}{i:Nat}(h:i < fs.length):zV0 (fs.take (i+1))=zV0 (fs.take i)++zZ9 fs[i].decls:=by
 unfold zV0;rw[List.take_succ_eq_append_getElem h];simp only[List.flatMap_append,List.flatMap_cons,List.flatMap_nil,List.append_nil]
theorem yW2 {fs:List FA}{i:Nat}(h:i < fs.length):zG3 (fs.take (i+1))=zG3 (fs.take i)++zZ7 fs[i].decls:=by
 unfold zG3;rw[List.take_succ_eq_append_getElem h];simp only[List.flatMap_append,List.flatMap_cons,List.flatMap_nil,List.append_nil]
theorem zB3 {fs:List FA}{i:Nat}(h:i < fs.length):zZ8 (fs.take (i+1))=zZ8 (fs.take i)++(zZ7 fs[i].decls).map lblD:=by
 unfold zZ8;rw[yW2 h,List.map_append]
theorem yG0:∀ (l m:List FA)(j:Nat),tagF j (l++m)=tagF j l++tagF (j+l.length) m
 | [],m,j=>by simp[tagF]
 | f ::l,m,j=>by
   rw[List.cons_append,tagF,yG0 l m (j+1),tagF,List.append_assoc,List.length_cons];congr 3;omega
theorem xX4 {fs:List FA}{i:Nat}(h:i < fs.length):tagF 0 (fs.take (i+1))=tagF 0 (fs.take i)++(zZ7 fs[i].decls).map fun d=>(i,d):=by
 rw[List.take_succ_eq_append_getElem h,yG0];simp only[tagF,List.append_nil,List.length_take,Nat.zero_add];rw[Nat.min_eq_left (Nat.le_of_lt h)]
theorem zD7:∀ (l:List FA)(j:Nat),(tagF j l).map (·.2)=zG3 l
 | [],_=>rfl
 | f ::l,j=>by
   rw[tagF,List.map_append,zD7 l (j+1),List.map_map];have:((fun x:Nat × DA=>x.2) ∘ fun d=>(j,d))=id:=rfl;rw[this,List.map_id];rfl
def okN (F N:List Tx)(l:List DA):Bool:=zT4 N ((zZ7 l).map lblD)&&(N++(zZ7 l).map lblD).all fun x=>!decide (x∈F++zZ9 l)
theorem yS3 (F:List Tx)(L:List (Tx × Nat))(l:List DA):okD2 F L l=okN F (L.map (·.1)) l:=rfl
def twF (fs:List FA):Nat→Bool
 | 0=>false
 | i+1=>!okN (zV0 (fs.take i)) (zZ8 (fs.take i)) ((fs.map (·.decls)).getD i [])||(twF fs i|| !zT4 [] ((zX7 fs).getD i []))
def mptr (b:Nat):Value:=.map (some b)
theorem elMap:ElT Tryz.prog 83 103 1 8:=ElT.mk_ (z:=.map none) Tryz.underlying83 qF rfl (by decide)
section
variable {P:Program}{w:World}
theorem zN5 {ops:Array Oper}{rest:List Oper}{o:Oper}{a:Act}{Q:Exit→Act→World→Prop}(hgd:o.guard=none)(s x:Operand)(t:TypeId)
  (ho:o.op=.call {callee:=.builtin .append,args:=#[s,x],argTypes:=#[t,t]})
  (base e size bytes:Nat)(hT:ElT P t e size bytes)(v:Value)(n:Nat)(xs:List Value)(hs:a.eval s=v)(hown:w.ownsRow base e size v n xs)
  (A:Option Addr)(m c:Nat)(news:List Value)(hx:a.eval x=.slice A m c)(hm:0 < m)(hsrc:Src w size A m news)(h1:∀ u∈news,u.oneCell'=true)
  (h63:n+m≤maxLen)(hbytes:(n+m)*bytes≤140737488355328)(hbase:base≤w.heap.size)
  (h:∀ v' w',w'.ownsRow base e size v' (n+m) (xs++news)→w.grownBy w' v.ownBlock→Below base w w'→(v'.ownBlock=v.ownBlock∨v'.ownBlock=some w.heap.size)→wpList P ops Q rest (a.put o.dst v') w'):wpList P ops Q (o ::rest) a w:=
 wpList_plain hgd fun _ hK=>by
  obtain⟨ht,hsz,i,z,hi,hz,hs',hby,hzs⟩:=hT;obtain⟨ad,rfl,hc⟩:=hsrc.2 hm;obtain⟨v',w',hr,h2,h3,h4,h5⟩:=run_append_own_at (P:=P) w base t o.type e i z size bytes ht hi hz hs' hby hzs hsz v n xs hown ad m c news hsrc.1 hc h1 h63 hbytes hbase;unfold Oper.wp execOp;simp only[ho,resolve,invoke,builtin,Sem.run_bind,Sem.run_pure,Result.andThen_ok,List.map_toArray,List.map_cons,List.map_nil,hs,hx,hr];exact hK _ _ (h v' w' h2 h3 (qH.grown h3 hbase (fun k hk=>(hown.lt k hk).1)) h5)
end
theorem zQ6 {w:World}{base e size n g:Nat}{v:Value}{xs:List Value}{ty:TypeId}{cs:Array Value}(h:w.ownsRow base e size v n xs)(hb:Blk w g ty cs)(hne:ty≠e):∀ b,v.ownBlock=some b→g≠b:=fun b hv hg=>by
 subst hg;rcases h.2 with ⟨rfl,_⟩ | ⟨g',cap,cur,rfl,_,h4,_⟩
 ·cases hv
 ·simp only[Value.ownBlock,Option.some.injEq] at hv;subst hv;rw[hb] at h4;injection h4 with h4
  injection h4 with _ h5
  exact hne h5
theorem zK2 {w:World}{base e size n b q:Nat}{v:Value}{xs:List Value}{α:Type}{P:Program}{k:TypeId}{T:KeyT P k α}{f:α→Option Value}(h:w.ownsRow base e size v n xs)(hm:OMap T w b q f):v.ownBlock≠some b:=fun hv=>by
 rcases h.2 with ⟨rfl,_⟩ | ⟨g',cap,cur,rfl,_,h4,_⟩
 ·cases hv
 ·simp only[Value.ownBlock,Option.some.injEq] at hv;subst hv;obtain⟨D,⟨es,clock,hb,r⟩,h2⟩:=hm;rw[h4] at hb;cases hb
theorem zR9 {w:World}{base e size n:Nat}{v:Value}{xs:List Value}(h:w.ownsRow base e size v n xs):∀ b,v.ownBlock=some b→base≤b∧b < w.heap.size:=fun b hv=>h.lt b hv
structure LdSt (w0:World)(p:PA)(r rt bF bL:Nat)(i:Nat)(bs:List Nat)(objs:List Ob)(iB uB:List Nat)(Vi Vu:Value)(tw:Bool)(zf:Value)(wx:World):Prop where
 lo:Below w0.heap.size w0 wx
 nr:w0.heap.size≤r
 nt:w0.heap.size≤rt
 rc:Blk wx r 86 #[.string ⟨p.path.toArray⟩,.slice p.A p.files.length p.c,.pointer (some ⟨rt,0,none⟩),Vi,Vu,.slice none 0 0,.bool tw,.bool false,zf]
 sc:Blk wx rt 122 #[.map (some bF),.map (some bL),.pointer none,.int .i64 0]
 hF:OMap KS wx bF (zV0 (p.files.take i)).length (fF (zV0 (p.files.take i)))
 hL:OMap KS wx bL ((zZ8 (p.files.take i)).zip bs).length (fL ((zZ8 (p.files.take i)).zip bs))
 ln:bs.length=(zG3 (p.files.take i)).length
 pw:bs.Pairwise (· < ·)
 lt:∀ b∈bs,w0.heap.size≤b∧b < wx.heap.size
 ob:∀ o∈objs,Blk wx o.blk 102 (obV o)
 o1:objs.map (·.blk)=bs
 o2:objs.map (fun o=>(o.file,o.d))=tagF 0 (p.files.take i)
 o3:∀ o∈objs,o=zC7 o.blk rt o.file zK5 o.d
 im:∀ (j:Nat) (h:j < iB.length),OMap KS wx iB[j] ((zX7 p.files).getD j []).length (fF ((zX7 p.files).getD j []))
 um:∀ (j:Nat) (h:j < uB.length),OMap KS wx uB[j] 0 (fF [])
 mn:(bF ::bL ::(iB++uB)).Nodup
 ml:∀ b∈bF ::bL ::(iB++uB),w0.heap.size≤b
 vi:wx.ownsRow w0.heap.size 103 1 Vi iB.length (iB.map mptr)
 vu:wx.ownsRow w0.heap.size 103 1 Vu uB.length (uB.map mptr)
 vn:∀ b,Vi.ownBlock=some b→Vu.ownBlock≠some b
section
variable {w0:World}{p:PA}{r rt bF bL i:Nat}{bs:List Nat}{objs:List Ob}{iB uB:List Nat}{Vi Vu zf:Value}{tw:Bool}{wx wy:World}{N:Nat→Prop}
def yS4 (r rt bF bL:Nat)(bs iB uB:List Nat)(Vi Vu:Value)(b:Nat):Prop:=b=r∨b=rt∨b∈bF ::bL ::(iB++uB)∨b∈bs∨Vi.ownBlock=some b∨Vu.ownBlock=some b
theorem LdSt.mapLt (h:LdSt w0 p r rt bF bL i bs objs iB uB Vi Vu tw zf wx):∀ b∈bF ::bL ::(iB++uB),b < wx.heap.size:=fun b hb=>by
 simp only[List.mem_cons,List.mem_append] at hb;rcases hb with rfl | rfl | hb | hb
 ·exact h.hF.lt
 ·exact h.hL.lt
 ·obtain⟨j,hj,rfl⟩:=List.mem_iff_getElem.1 hb;exact(h.im j hj).lt
 ·obtain⟨j,hj,rfl⟩:=List.mem_iff_getElem.1 hb;exact(h.um j hj).lt
theorem LdSt.own_lt (h:LdSt w0 p r rt bF bL i bs objs iB uB Vi Vu tw zf wx):∀ b,yS4 r rt bF bL bs iB uB Vi Vu b→b < wx.heap.size:=fun b hb=>by
 rcases hb with rfl | rfl | hb | hb | hb | hb
 ·exact h.rc.lt
 ·exact h.sc.lt
 ·exact h.mapLt b hb
 ·exact(h.lt b hb).2
 ·exact(zR9 h.vi b hb).2
 ·exact(zR9 h.vu b hb).2
theorem LdSt.blkNeMap (h:LdSt w0 p r rt bF bL i bs objs iB uB Vi Vu tw zf wx){g:Nat}{ty:TypeId}{cs:Array Value}(hb:Blk wx g ty cs):∀ b∈bF ::bL ::(iB++uB),g≠b:=fun b hm=>by
 simp only[List.mem_cons,List.mem_append] at hm;rcases hm with rfl | rfl | hm | hm
 ·exact zY4 hb h.hF
 ·exact zY4 hb h.hL
 ·obtain⟨j,hj,rfl⟩:=List.mem_iff_getElem.1 hm;exact zY4 hb (h.im j hj)
 ·obtain⟨j,hj,rfl⟩:=List.mem_iff_getElem.1 hm;exact zY4 hb (h.um j hj)
theorem LdSt.rowNeMap (h:LdSt w0 p r rt bF bL i bs objs iB uB Vi Vu tw zf wx){base e size n:Nat}{v:Value}{xs:List Value}(hb:wx.ownsRow base e size v n xs):∀ b∈bF ::bL ::(iB++uB),v.ownBlock≠some b:=fun b hm=>by
 simp only[List.mem_cons,List.mem_append] at hm;rcases hm with rfl | rfl | hm | hm
 ·exact zK2 hb h.hF
 ·exact zK2 hb h.hL
 ·obtain⟨j,hj,rfl⟩:=List.mem_iff_getElem.1 hm;exact zK2 hb (h.im j hj)
 ·obtain⟨j,hj,rfl⟩:=List.mem_iff_getElem.1 hm;exact zK2 hb (h.um j hj)
theorem LdSt.blkLet (h:LdSt w0 p r rt bF bL i bs objs iB uB Vi Vu tw zf wx){b:Nat}(hb:b∈bs):∃ cs,Blk wx b 102 cs:=by
 rw[←h.o1] at hb;obtain⟨o,ho,rfl⟩:=List.mem_map.1 hb;exact⟨_,h.ob o ho⟩
theorem LdSt.rowI (h:LdSt w0 p r rt bF bL i bs objs iB uB Vi Vu tw zf wx){b:Nat}(hb:Vi.ownBlock=some b):r≠b∧rt≠b∧(∀ m∈bF ::bL ::(iB++uB),m≠b)∧(∀ m∈bs,m≠b):=
 ⟨zQ6 h.vi h.rc (by decide) b hb,zQ6 h.vi h.sc (by decide) b hb,fun m hm e=>h.rowNeMap h.vi m hm (e▸hb),fun m hm=>by
  obtain⟨cs,hc⟩:=h.blkLet hm;exact zQ6 h.vi hc (by decide) b hb⟩
theorem LdSt.rowU (h:LdSt w0 p r rt bF bL i bs objs iB uB Vi Vu tw zf wx){b:Nat}(hb:Vu.ownBlock=some b):r≠b∧rt≠b∧(∀ m∈bF ::bL ::(iB++uB),m≠b)∧(∀ m∈bs,m≠b):=
 ⟨zQ6 h.vu h.rc (by decide) b hb,zQ6 h.vu h.sc (by decide) b hb,fun m hm e=>h.rowNeMap h.vu m hm (e▸hb),fun m hm=>by
  obtain⟨cs,hc⟩:=h.blkLet hm;exact zQ6 h.vu hc (by decide) b hb⟩
theorem LdSt.low (h:LdSt w0 p r rt bF bL i bs objs iB uB Vi Vu tw zf wx)(hk:Kp N wx wy)(hN:∀ b,N b→w0.heap.size≤b):Below w0.heap.size w0 wy:=h.lo.trans (hk.toBelow h.lo.size fun i hi hn=>by have:=hN i hn;omega)
theorem LdSt.kept (h:LdSt w0 p r rt bF bL i bs objs iB uB Vi Vu tw zf wx)(hk:Kp N wx wy)(hN:∀ b,N b→w0.heap.size≤b∧¬ yS4 r rt bF bL bs iB uB Vi Vu b):LdSt w0 p r rt bF bL i bs objs iB uB Vi Vu tw zf wy:=by
 have hn:∀ b,yS4 r rt bF bL bs iB uB Vi Vu b→¬ N b:=fun b hb hn=>(hN b hn).2 hb;have hm:∀ b∈bF ::bL ::(iB++uB),¬ N b:=fun b hb=>hn b (.inr (.inr (.inl hb)));refine⟨h.low hk fun b hb=>(hN b hb).1,h.nr,h.nt,hk.blk h.rc (hn _ (.inl rfl)),hk.blk h.sc (hn _ (.inr (.inl rfl))),h.hF.keptK hk (hm _ (by simp)),h.hL.keptK hk (hm _ (by simp)),h.ln,h.pw,fun b hb=>⟨(h.lt b hb).1,Nat.lt_of_lt_of_le (h.lt b hb).2 hk.size⟩,fun o ho=>hk.blk (h.ob o ho) (hn _ (.inr (.inr (.inr (.inl (h.o1▸List.mem_map.2 ⟨o,ho,rfl⟩)))))),h.o1,h.o2,h.o3,
  fun j hj=>(h.im j hj).keptK hk (hm _ ?_),fun j hj=>(h.um j hj).keptK hk (hm _ ?_),h.mn,h.ml,zU4 h.vi hk fun b hb=>hn _ (.inr (.inr (.inr (.inr (.inl hb))))),zU4 h.vu hk fun b hb=>hn _ (.inr (.inr (.inr (.inr (.inr hb))))),h.vn⟩
 ·have:=List.getElem_mem hj;simp[this]
 ·have:=List.getElem_mem hj;simp[this]
theorem LdSt.below (h:LdSt w0 p r rt bF bL i bs objs iB uB Vi Vu tw zf wx)(hb:Below wx.heap.size wx wy):LdSt w0 p r rt bF bL i bs objs iB uB Vi Vu tw zf wy:=
 h.kept (N:=fun _=>False) (Kp.ofBelow hb _) (fun _ h=>h.elim)
theorem LdSt.flag (h:LdSt w0 p r rt bF bL i bs objs iB uB Vi Vu tw zf wx)(tw':Bool):LdSt w0 p r rt bF bL i bs objs iB uB Vi Vu tw' zf (wx.setCell ⟨r,6,none⟩ (.bool tw')):=by
 have hk:Kp (· = r) wx (wx.setCell ⟨r,6,none⟩ (.bool tw')):=(Kp.refl (· = r) wx).setCell (p:=⟨r,6,none⟩) rfl _;have hm:∀ b∈bF ::bL ::(iB++uB),¬ b=r:=fun b hb e=>h.blkNeMap h.rc b hb e.symm;refine⟨h.low hk fun b hb=>by subst hb;exact h.nr,h.nr,h.nt,by simpa using h.rc.set_ 6 (.bool tw'),hk.blk h.sc (zQ1 h.sc h.rc (by decide)),h.hF.keptK hk (hm _ (by simp)),h.hL.keptK hk (hm _ (by simp)),h.ln,h.pw,fun b hb=>⟨(h.lt b hb).1,Nat.lt_of_lt_of_le (h.lt b hb).2 hk.size⟩,fun o ho=>hk.blk (h.ob o ho) (zQ1 (h.ob o ho) h.rc (by decide)),h.o1,h.o2,h.o3,
  fun j hj=>(h.im j hj).keptK hk (hm _ ?_),fun j hj=>(h.um j hj).keptK hk (hm _ ?_),h.mn,h.ml,zU4 h.vi hk fun b hb e=>(h.rowI hb).1 e.symm,zU4 h.vu hk fun b hb e=>(h.rowU hb).1 e.symm,h.vn⟩
 ·have:=List.getElem_mem hj;simp[this]
 ·have:=List.getElem_mem hj;simp[this]
theorem LdSt.pushI (h:LdSt w0 p r rt bF bL i bs objs iB uB Vi Vu tw zf wx){mB:Nat}(hO:OMap KS wx mB ((zX7 p.files).getD iB.length []).length (fF ((zX7 p.files).getD iB.length [])))(hm0:w0.heap.size≤mB)(hmn:¬ yS4 r rt bF bL bs iB uB Vi Vu mB){o:Obj}{Vi':Value}
  (hown:wy.ownsRow w0.heap.size 103 1 Vi' (iB.length+1) (iB.map mptr++ [mptr mB]))(hg:(wx.alloc o).grownBy wy Vi.ownBlock)(hob:Vi'.ownBlock=Vi.ownBlock∨Vi'.ownBlock=some (wx.alloc o).heap.size) :
  LdSt w0 p r rt bF bL i bs objs (iB++ [mB]) uB Vi' Vu tw zf (wy.setCell ⟨r,3,none⟩ Vi'):=by
 have hk1:Kp (fun b=>Vi.ownBlock=some b) wx wy:=((Kp.refl _ wx).alloc o).grown hg fun k hk=>.inl hk;have hk:Kp (fun b=>Vi.ownBlock=some b∨b=r) wx (wy.setCell ⟨r,3,none⟩ Vi'):=(hk1.mono fun _ h=>.inl h).setCell (p:=⟨r,3,none⟩) (.inr rfl) _;have hk3:Kp (· = r) wy (wy.setCell ⟨r,3,none⟩ Vi'):=(Kp.refl (· = r) wy).setCell (p:=⟨r,3,none⟩) rfl _;have hm:∀ b∈bF ::bL ::(iB++uB),¬ (Vi.ownBlock=some b∨b=r):=fun b hb e=>by
  rcases e with e | e
  ·exact(h.rowI e).2.2.1 b hb rfl
  ·exact h.blkNeMap h.rc b hb e.symm
 have hmB:¬ (Vi.ownBlock=some mB∨mB=r):=fun e=>by
  rcases e with e | e
  ·exact hmn (.inr (.inr (.inr (.inr (.inl e)))))
  ·exact hmn (.inl e)
 have hrc1:=hk1.blk h.rc (fun e=>(h.rowI e).1 rfl);have hrow:∀ b,Vi'.ownBlock=some b→r≠b:=zQ6 hown hrc1 (by decide);refine⟨h.low hk fun b hb=>?_,h.nr,h.nt,by simpa using hrc1.set_ 3 Vi',hk.blk h.sc (fun e=>e.elim (fun e=>(h.rowI e).2.1 rfl) fun e=>zQ1 h.sc h.rc (by decide) e),h.hF.keptK hk (hm _ (by simp)),h.hL.keptK hk (hm _ (by simp)),h.ln,h.pw,fun b hb=>⟨(h.lt b hb).1,Nat.lt_of_lt_of_le (h.lt b hb).2 hk.size⟩,fun o ho=>hk.blk (h.ob o ho) (fun e=>?_),h.o1,h.o2,h.o3,
  fun j hj=>?_,fun j hj=>(h.um j hj).keptK hk (hm _ ?_),?_,fun b hb=>?_,?_,?_,fun b hb hb2=>?_⟩
 ·rcases hb with e | rfl
  ·exact(zR9 h.vi b e).1
  ·exact h.nr
 ·rcases e with e | e
  ·exact(h.rowI e).2.2.2 _ (h.o1▸List.mem_map.2 ⟨o,ho,rfl⟩) rfl
  ·exact zQ1 (h.ob o ho) h.rc (by decide) e
 ·rw[List.length_append,List.length_singleton] at hj;by_cases hjl:j < iB.length
  ·rw[List.getElem_append_left hjl];have:=List.getElem_mem hjl;exact(h.im j hjl).keptK hk (hm _ (by simp[this]))
  ·obtain rfl:j=iB.length:=by omega
   rw[List.getElem_concat_length rfl];exact hO.keptK hk hmB
 ·have:=List.getElem_mem hj;simp[this]
 ·have h1:=h.mn;have h2:mB∉bF ::bL ::(iB++uB):=fun e=>hmn (.inr (.inr (.inl e)));have hp:(bF ::bL ::(iB++ [mB]++uB)).Perm (mB ::(bF ::bL ::(iB++uB))):=by
   have:(iB++ [mB]++uB).Perm (mB ::(iB++uB)):=by simp
   exact((this.cons bL).cons bF).trans (((List.Perm.swap mB bL _).cons bF).trans (List.Perm.swap mB bF _))
  exact hp.nodup_iff.2 (List.nodup_cons.2 ⟨h2,h1⟩)
 ·simp only[List.mem_cons,List.mem_append] at hb;rcases hb with rfl | rfl | (hb | rfl | hb) | hb
  ·exact h.ml _ (by simp)
  ·exact h.ml _ (by simp)
  ·exact h.ml _ (by simp[hb])
  ·exact hm0
  ·cases hb
  ·exact h.ml _ (by simp[hb])
 ·exact xR
 ·exact zU4 h.vu hk fun b hb e=>e.elim (fun e=>h.vn b e hb) fun e=>(h.rowU hb).1 e.symm
 ·rcases hob with e | e
  ·exact h.vn b (e▸hb) hb2
  ·have:=(zR9 h.vu b hb2).2;rw[e] at hb;injection hb with hb
   simp only[World.size_alloc] at hb;omega
theorem LdSt.pushU (h:LdSt w0 p r rt bF bL i bs objs iB uB Vi Vu tw zf wx){mB:Nat}(hO:OMap KS wx mB 0 (fF []))(hm0:w0.heap.size≤mB)(hmn:¬ yS4 r rt bF bL bs iB uB Vi Vu mB){o:Obj}{Vu':Value}
  (hown:wy.ownsRow w0.heap.size 103 1 Vu' (uB.length+1) (uB.map mptr++ [mptr mB]))(hg:(wx.alloc o).grownBy wy Vu.ownBlock)(hob:Vu'.ownBlock=Vu.ownBlock∨Vu'.ownBlock=some (wx.alloc o).heap.size) :
  LdSt w0 p r rt bF bL i bs objs iB (uB++ [mB]) Vi Vu' tw zf (wy.setCell ⟨r,4,none⟩ Vu'):=by
 have hk1:Kp (fun b=>Vu.ownBlock=some b) wx wy:=((Kp.refl _ wx).alloc o).grown hg fun k hk=>.inl hk;have hk:Kp (fun b=>Vu.ownBlock=some b∨b=r) wx (wy.setCell ⟨r,4,none⟩ Vu'):=(hk1.mono fun _ h=>.inl h).setCell (p:=⟨r,4,none⟩) (.inr rfl) _;have hk3:Kp (· = r) wy (wy.setCell ⟨r,4,none⟩ Vu'):=(Kp.refl (· = r) wy).setCell (p:=⟨r,4,none⟩) rfl _;have hm:∀ b∈bF ::bL ::(iB++uB),¬ (Vu.ownBlock=some b∨b=r):=fun b hb e=>by
  rcases e with e | e
  ·exact(h.rowU e).2.2.1 b hb rfl
  ·exact h.blkNeMap h.rc b hb e.symm
 have hmB:¬ (Vu.ownBlock=some mB∨mB=r):=fun e=>by
  rcases e with e | e
  ·exact hmn (.inr (.inr (.inr (.inr (.inr e)))))
  ·exact hmn (.inl e)
 have hrc1:=hk1.blk h.rc (fun e=>(h.rowU e).1 rfl);have hrow:∀ b,Vu'.ownBlock=some b→r≠b:=zQ6 hown hrc1 (by decide);refine⟨h.low hk fun b hb=>?_,h.nr,h.nt,by simpa using hrc1.set_ 4 Vu',hk.blk h.sc (fun e=>e.elim (fun e=>(h.rowU e).2.1 rfl) fun e=>zQ1 h.sc h.rc (by decide) e),h.hF.keptK hk (hm _ (by simp)),h.hL.keptK hk (hm _ (by simp)),h.ln,h.pw,fun b hb=>⟨(h.lt b hb).1,Nat.lt_of_lt_of_le (h.lt b hb).2 hk.size⟩,fun o ho=>hk.blk (h.ob o ho) (fun e=>?_),h.o1,h.o2,h.o3,
  fun j hj=>(h.im j hj).keptK hk (hm _ ?_),fun j hj=>?_,?_,fun b hb=>?_,?_,?_,fun b hb hb2=>?_⟩
 ·rcases hb with e | rfl
  ·exact(zR9 h.vu b e).1
  ·exact h.nr
 ·rcases e with e | e
  ·exact(h.rowU e).2.2.2 _ (h.o1▸List.mem_map.2 ⟨o,ho,rfl⟩) rfl
  ·exact zQ1 (h.ob o ho) h.rc (by decide) e
 ·have:=List.getElem_mem hj;simp[this]
 ·rw[List.length_append,List.length_singleton] at hj;by_cases hjl:j < uB.length
  ·rw[List.getElem_append_left hjl];have:=List.getElem_mem hjl;exact(h.um j hjl).keptK hk (hm _ (by simp[this]))
  ·obtain rfl:j=uB.length:=by omega
   rw[List.getElem_concat_length rfl];exact hO.keptK hk hmB
 ·have h1:=h.mn;have h2:mB∉bF ::bL ::(iB++uB):=fun e=>hmn (.inr (.inr (.inl e)));have hp:(bF ::bL ::(iB++(uB++ [mB]))).Perm (mB ::(bF ::bL ::(iB++uB))):=by
   have:(iB++(uB++ [mB])).Perm (mB ::(iB++uB)):=by
    rw[←List.append_assoc];exact List.perm_append_comm
   exact((this.cons bL).cons bF).trans (((List.Perm.swap mB bL _).cons bF).trans (List.Perm.swap mB bF _))
  exact hp.nodup_iff.2 (List.nodup_cons.2 ⟨h2,h1⟩)
 ·simp only[List.mem_cons,List.mem_append] at hb;rcases hb with rfl | rfl | hb | (hb | rfl | hb)
  ·exact h.ml _ (by simp)
  ·exact h.ml _ (by simp)
  ·exact h.ml _ (by simp[hb])
  ·exact h.ml _ (by simp[hb])
  ·exact hm0
  ·cases hb
 ·exact zU4 h.vi hk fun b hb e=>e.elim (fun e=>h.vn b hb e) fun e=>(h.rowI hb).1 e.symm
 ·exact xR
 ·rcases hob with e | e
  ·exact h.vn b hb (e▸hb2)
  ·have:=(zR9 h.vi b hb).2;rw[e] at hb2;injection hb2 with hb2
   simp only[World.size_alloc] at hb2;omega
theorem LdSt.rcI (h:LdSt w0 p r rt bF bL i bs objs iB uB Vi Vu tw zf wx){o:Obj}(hg:(wx.alloc o).grownBy wy Vi.ownBlock):Blk wy r 86 #[.string ⟨p.path.toArray⟩,.slice p.A p.files.length p.c,.pointer (some ⟨rt,0,none⟩),Vi,Vu,.slice none 0 0,.bool tw,.bool false,zf]:=
 (((Kp.refl (fun b=>Vi.ownBlock=some b) wx).alloc o).grown hg fun _ hk=>.inl hk).blk h.rc (fun e=>(h.rowI e).1 rfl)
theorem LdSt.boxI (h:LdSt w0 p r rt bF bL i bs objs iB uB Vi Vu tw zf wx){o:Obj}(hg:(wx.alloc o).grownBy wy Vi.ownBlock){g:Nat}{ty:TypeId}{cs:Array Value}(hb:Blk wx g ty cs)(hne:ty≠86∧ty≠103)(v:Value):Blk (wy.setCell ⟨r,3,none⟩ v) g ty cs:=
 ((((Kp.refl (fun b=>Vi.ownBlock=some b) wx).alloc o).grown hg fun _ hk=>.inl hk).blk hb (fun e=>zQ6 h.vi hb hne.2 _ e rfl)).far (zQ1 hb h.rc hne.1) v
theorem LdSt.rcU (h:LdSt w0 p r rt bF bL i bs objs iB uB Vi Vu tw zf wx){o:Obj}(hg:(wx.alloc o).grownBy wy Vu.ownBlock):Blk wy r 86 #[.string ⟨p.path.toArray⟩,.slice p.A p.files.length p.c,.pointer (some ⟨rt,0,none⟩),Vi,Vu,.slice none 0 0,.bool tw,.bool false,zf]:=
 (((Kp.refl (fun b=>Vu.ownBlock=some b) wx).alloc o).grown hg fun _ hk=>.inl hk).blk h.rc (fun e=>(h.rowU e).1 rfl)
theorem LdSt.boxU (h:LdSt w0 p r rt bF bL i bs objs iB uB Vi Vu tw zf wx){o:Obj}(hg:(wx.alloc o).grownBy wy Vu.ownBlock){g:Nat}{ty:TypeId}{cs:Array Value}(hb:Blk wx g ty cs)(hne:ty≠86∧ty≠103)(v:Value):Blk (wy.setCell ⟨r,4,none⟩ v) g ty cs:=
 ((((Kp.refl (fun b=>Vu.ownBlock=some b) wx).alloc o).grown hg fun _ hk=>.inl hk).blk hb (fun e=>zQ6 h.vu hb hne.2 _ e rfl)).far (zQ1 hb h.rc hne.1) v
theorem LdSt.decl (h:LdSt w0 p r rt bF bL i bs objs iB uB Vi Vu tw zf wx)(hi:i < p.files.length){bs':List Nat}(hD:DcSt wx rt bF bL i (zV0 (p.files.take i)) ((zZ8 (p.files.take i)).zip bs) p.files[i].decls bs' wy) :
  LdSt w0 p r rt bF bL (i+1) (bs++bs') (objs++zU5 bs' (zZ7 p.files[i].decls) rt i) iB uB Vi Vu tw zf wy:=by
 have hk:=hD.hk;have hm:∀ b∈iB++uB,¬ (b=bF∨b=bL):=fun b hb e=>by
  have h1:=h.mn;rw[List.nodup_cons,List.nodup_cons] at h1;rcases e with rfl | rfl
  ·exact h1.1 (by simp only[List.mem_cons];exact .inr hb)
  ·exact h1.2.1 hb
 have hlt:=h.mapLt;have hnm:(zZ8 (p.files.take i)).length=bs.length:=by rw[h.ln,zZ8,List.length_map]
 have hz:(zZ8 (p.files.take i)).zip bs++((zZ7 p.files[i].decls).map lblD).zip bs'=(zZ8 (p.files.take (i+1))).zip (bs++bs'):=by
  rw[zB3 hi,List.zip_append hnm]
 refine⟨h.low hk fun b hb=>?_,h.nr,h.nt,hk.blk h.rc fun e=>?_,hk.blk h.sc fun e=>?_,?_,?_,?_,?_,fun b hb=>?_,fun o ho=>?_,?_,?_,fun o ho=>?_,fun j hj=>(h.im j hj).keptK hk (hm _ ?_),fun j hj=>(h.um j hj).keptK hk (hm _ ?_),h.mn,h.ml,zU4 h.vi hk fun b hb e=>?_,zU4 h.vu hk fun b hb e=>?_,h.vn⟩
 ·rcases hb with rfl | rfl <;> exact h.ml _ (by simp)
 ·rcases e with e | e
  ·exact h.blkNeMap h.rc bF (by simp) e
  ·exact h.blkNeMap h.rc bL (by simp) e
 ·rcases e with e | e
  ·exact h.blkNeMap h.sc bF (by simp) e
  ·exact h.blkNeMap h.sc bL (by simp) e
 ·rw[yW1 hi];exact hD.hf
 ·have h1:=hD.hl;rw[hz] at h1;have h2:((zZ8 (p.files.take i)).zip bs).length+bs'.length=((zZ8 (p.files.take (i+1))).zip (bs++bs')).length:=by
   rw[←hz,List.length_append];simp[hD.len]
  rw[h2] at h1;exact h1
 ·rw[yW2 hi,List.length_append,List.length_append,h.ln,hD.len]
 ·rw[List.pairwise_append];exact⟨h.pw,hD.hp,fun a ha b hb=>Nat.lt_of_lt_of_le (h.lt a ha).2 (hD.hn b hb).1⟩
 ·rcases List.mem_append.1 hb with hb | hb
  ·exact⟨(h.lt b hb).1,Nat.lt_of_lt_of_le (h.lt b hb).2 hk.size⟩
  ·exact⟨Nat.le_trans h.lo.size (hD.hn b hb).1,(hD.hn b hb).2⟩
 ·rcases List.mem_append.1 ho with ho | ho
  ·refine hk.blk (h.ob o ho) fun e=>?_;rcases e with e | e
   ·exact h.blkNeMap (h.ob o ho) bF (by simp) e
   ·exact h.blkNeMap (h.ob o ho) bL (by simp) e
  ·obtain⟨q,hq,rfl⟩:=List.mem_map.1 ho;rw[zB1];exact hD.hb q hq
 ·rw[List.map_append,h.o1];congr 1;unfold zU5;rw[List.map_map];have:((fun x:Ob=>x.blk) ∘ fun p:Nat × DA=>zC7 p.1 rt i zK5 p.2)=Prod.fst:=rfl;rw[this,List.map_fst_zip (by have:=hD.len;omega)]
 ·rw[List.map_append,h.o2,xX4 hi];congr 1;unfold zU5;rw[List.map_map];have e1:((fun o:Ob=>(o.file,o.d)) ∘ fun p:Nat × DA=>zC7 p.1 rt i zK5 p.2)=(fun d=>(i,d)) ∘ Prod.snd:=rfl;rw[e1,←List.map_map,List.map_snd_zip (by have:=hD.len;omega)]
 ·rcases List.mem_append.1 ho with ho | ho
  ·exact h.o3 o ho
  ·obtain⟨q,hq,rfl⟩:=List.mem_map.1 ho;rfl
 ·have:=List.getElem_mem hj;simp[this]
 ·have:=List.getElem_mem hj;simp[this]
 ·rcases e with rfl | rfl
  ·exact h.rowNeMap h.vi b (by simp) hb
  ·exact h.rowNeMap h.vi b (by simp) hb
 ·rcases e with rfl | rfl
  ·exact h.rowNeMap h.vu b (by simp) hb
  ·exact h.rowNeMap h.vu b (by simp) hb
end
theorem xX5 {w:World}{B c:Nat}{A:Option Addr}{bs:List Nat}(h:w.ownsRow B 103 1 (.slice A bs.length c) bs.length (bs.map mptr)):MpSl w w.heap.size A bs:=by
 rcases h.2 with ⟨_,h0⟩ | ⟨g,cap,cur,hv,_,hb,h1,_,h3,h4⟩
 ·exact .inl (List.eq_nil_of_length_eq_zero h0)
 ·injection hv with hA
  have hb':Blk w g 103 cur:=hb;refine .inr ⟨g,cur,hA,hb'.lt,hb',fun i hi=>?_⟩;have e:cur.toList.take (bs.length*1)=bs.map mptr:=h4;have e2:(cur.toList.take (bs.length*1))[i]? = (bs.map mptr)[i]?:=by rw[e]
  rw[List.getElem?_take,if_pos qG,List.getElem?_map,List.getElem?_eq_getElem hi] at e2;simpa[mptr] using e2
theorem yG1:∀ {fs:List FA}{j i:Nat}{d:DA},(i,d)∈tagF j fs→∃ (h:i-j < fs.length),j≤i∧d∈zZ7 fs[i-j].decls
 | f ::fs,j,i,d,h=>by
   rw[tagF,List.mem_append] at h;rcases h with h | h
   ·obtain⟨d',hd',e⟩:=List.mem_map.1 h;injection e with e1 e2
    subst e1 e2;exact⟨by simp,Nat.le_refl _,by simpa using hd'⟩
   ·obtain⟨h1,h2,h3⟩:=yG1 h;have e:i-j=(i-(j+1))+1:=by omega
    refine⟨by rw[List.length_cons];omega,by omega,?_⟩;simp only[e,List.getElem_cons_succ];exact h3
def zJ2 (p:PA)(rt bF bL:Nat)(bs:List Nat):ScA:=⟨rt,bF,bL,zV0 p.files,(zZ8 p.files).zip bs⟩
structure Root (p:PA)(R:RF)(σ:GS Unit)(env:List ScA):Prop where
 ev:∃ bF bL,env=[zJ2 p R.root bF bL (σ.ρ.objs.map (·.blk))]
 o2:σ.ρ.objs.map (fun o=>(o.file,o.d))=tagF 0 p.files
 o3:∀ o∈σ.ρ.objs,o=zC7 o.blk R.root o.file zK5 o.d
 pw:(σ.ρ.objs.map (·.blk)).Pairwise (· < ·)
 tw:σ.ρ.twice=twF p.files p.files.length
 cy:σ.ρ.cyc=false
 al:ValsOf (fL ((zZ8 p.files).zip (σ.ρ.objs.map (·.blk)))) (σ.ρ.all.map lptr)
 us:σ.ρ.usedI=List.replicate p.files.length []
 im:R.imps=zX7 p.files
 en:∀ b,σ.en b=if b=R.root then env else[]
def wF (fs:List FA):Nat:=(fs.map fun f=>bDs f.decls).sum
theorem xX6:∀ fs:List FA,((zG3 fs).map fun d=>2+wEs (zU3 d)).sum=wF fs
 | []=>rfl
 | f ::fs=>by
   have ih:=xX6 fs;have e:zG3 (f ::fs)=zZ7 f.decls++zG3 fs:=rfl;have e2:wF (f ::fs)=bDs f.decls+wF fs:=by simp[wF]
   rw[e,e2,List.map_append,List.sum_append,ih,yT8]
theorem yW3:∀ (objs:List Ob)(rt:Nat)(_:∀ o∈objs,o=zC7 o.blk rt o.file zK5 o.d),wObs objs+objs.length=(objs.map fun o=>2+wEs (zU3 o.d)).sum
 | [],_,_=>rfl
 | o ::l,rt,h=>by
   have ih:=yW3 l rt fun x hx=>h x (by simp[hx]);have hw:wOb o=1+wEs (zU3 o.d):=by
    rw[h o (by simp)];rfl
   unfold wObs at *;simp only[List.map_cons,List.sum_cons,List.length_cons] at *;omega
theorem LdSt.fin {w0:World}{p:PA}{r rt bF bL:Nat}{bs:List Nat}{objs:List Ob}{iB uB:List Nat}{Ai Au:Option Addr}{ci cu:Nat}{tw:Bool}{zf av use:Value}{wx wy:World}{gs:List Nat}{s:Nat}
  (h:LdSt w0 p r rt bF bL p.files.length bs objs iB uB (.slice Ai iB.length ci) (.slice Au uB.length cu) tw zf wx)(hiB:iB.length=p.files.length)(huB:uB.length=p.files.length)
  (hP:PkL w0 p)(hone:∀ f∈p.files,yJ1 f.decls)(hh:∀ f∈p.files,hDs f.decls≤900)(hs:wF p.files+s≤1099511627776)
  (hV:ValsOf (fL ((zZ8 p.files).zip bs)) (gs.map lptr))(hrow:wy.ownsRow 0 80 1 av gs.length (gs.map lptr))(hk0:Kp (fun _=>False) wx wy)(hav:∀ b,av.ownBlock=some b→wx.heap.size≤b)(htw:tw=twF p.files p.files.length){B:Nat}(hB:B≤w0.heap.size)(hPB:OkP w0 B p) :
  ∃ (R:RF) (σ:GS Unit) (env:List ScA) (Im:Nat→Prop),R.r=r∧R.use=use∧R.uB.length=p.files.length∧Root p R σ env∧St R clo0 1099511627776 s σ Im ((wy.setCell ⟨r,5,none⟩ av).setCell ⟨r,8,none⟩ use)∧PkI Im ((wy.setCell ⟨r,5,none⟩ av).setCell ⟨r,8,none⟩ use) R p.files∧
    EnvI Im ((wy.setCell ⟨r,5,none⟩ av).setCell ⟨r,8,none⟩ use) (.pointer (some ⟨R.root,0,none⟩)) env∧EnvK σ.ρ.objs env∧Below w0.heap.size w0 ((wy.setCell ⟨r,5,none⟩ av).setCell ⟨r,8,none⟩ use)∧(∀ b,b < B→Im b)∧(∀ b,Im b→b < B∨w0.heap.size≤b)∧∀ b,(zn R clo0 σ Im).Mut b→w0.heap.size≤b:=by
 have h1:=h.kept hk0 fun b hb=>hb.elim;have hsz:=hk0.size;obtain⟨wz,hwz⟩:∃ wz,(wy.setCell ⟨r,5,none⟩ av).setCell ⟨r,8,none⟩ use=wz:=⟨_,rfl⟩;have hk:Kp (· = r) wy wz:=by rw[←hwz];exact((Kp.refl (· = r) wy).setCell (p:=⟨r,5,none⟩) rfl _).setCell (p:=⟨r,8,none⟩) rfl _
 have hrc:Blk wz r 86 #[.string ⟨p.path.toArray⟩,.slice p.A p.files.length p.c,.pointer (some ⟨rt,0,none⟩),.slice Ai iB.length ci,.slice Au uB.length cu,av,.bool tw,.bool false,use]:=by
  rw[←hwz];simpa using(h1.rc.set_ 5 av).set_ 8 use
 rw[hwz];clear hwz;have hzz:=hk.size;have hm:∀ b∈bF ::bL ::(iB++uB),¬ b=r:=fun b hb e=>h1.blkNeMap h1.rc b hb e.symm;have havne:∀ b,av.ownBlock=some b→b≠r∧(∀ m∈bF ::bL ::(iB++uB),m≠b)∧∀ o∈objs,o.blk≠b:=fun b hb=>
  ⟨fun e=>zQ6 hrow h1.rc (by decide) b hb e.symm,fun m hm e=>h1.rowNeMap hrow m hm (e▸hb),fun o ho=>zQ6 hrow (h1.ob o ho) (by decide) b hb⟩
 have hsc:=hk.blk h1.sc (zQ1 h1.sc h1.rc (by decide));have hnm:(zZ8 p.files).length=bs.length:=by rw[h.ln,zZ8,List.length_map,List.take_length]
 have hF:=h1.hF.keptK hk (hm _ (by simp));have hL:=h1.hL.keptK hk (hm _ (by simp));rw[List.take_length] at hF hL;have hmn:=h.mn;have hbFL:bF≠bL:=fun e=>by
  rw[List.nodup_cons] at hmn;exact hmn.1 (by simp[e])
 obtain⟨Im,hIm⟩:∃ Im:Nat→Prop,Im=fun b=>b < B∨b=rt∨b=bF∨b=bL∨b∈iB∨(Value.slice Ai iB.length ci).ownBlock=some b∨(Value.slice Au uB.length cu).ownBlock=some b:=⟨_,rfl⟩;have hI:∀ b,Im b↔(b < B∨b=rt∨b=bF∨b=bL∨b∈iB∨(Value.slice Ai iB.length ci).ownBlock=some b∨(Value.slice Au uB.length cu).ownBlock=some b):=fun b=>by rw[hIm]
 clear hIm;have hImlt:∀ b,Im b→b < wz.heap.size:=fun b hb=>by
  have hs0:=h1.lo.size;rcases(hI b).1 hb with e | rfl | rfl | rfl | e | e | e
  ·omega
  ·exact hsc.lt
  ·exact hF.lt
  ·exact hL.lt
  ·have:=h1.mapLt b (by simp[e]);omega
  ·have:=(zR9 h1.vi b e).2;omega
  ·have:=(zR9 h1.vu b e).2;omega
 have hlow:Below w0.heap.size w0 wz:=h1.low hk fun b hb=>by subst hb;exact h.nr
 have hold:∀ {w':World},Below w0.heap.size w0 w'→Kp (fun _=>False) w0 w':=fun hb=>Kp.ofBelow hb _;have hk00:=hold hlow;have hIm0:∀ b,b < B→Im b:=fun b hb=>(hI b).2 (.inl hb);have hImN:∀ b,Im b→b < B∨w0.heap.size≤b:=fun b hb=>by
  rcases(hI b).1 hb with e | rfl | rfl | rfl | e | e | e
  ·exact .inl e
  ·exact .inr h.nt
  ·exact .inr (h.ml _ (by simp))
  ·exact .inr (h.ml _ (by simp))
  ·exact .inr (h.ml _ (by simp[e]))
  ·exact .inr (zR9 h.vi b e).1
  ·exact .inr (zR9 h.vu b e).1
 have hds:∀ f∈p.files,SlI Im wz 11 encD f.Ad f.decls∧OkIds Im wz f.decls:=fun f hf=>by
  have ho:=hPB.each f hf;have hz:=hP.sz f hf;exact⟨(zQ5 ho.decls hB hz.2.1).kept hk00 (fun _ _ h=>h) hIm0,(zZ2 hk00 (fun _ _ h=>h) hIm0).2.2.2 _ ((okI_ofB hB).2.2.2 _ ho.trees hz.2.2.1 (hone f hf))⟩
 have hEnv:EnvI Im wz (.pointer (some ⟨rt,0,none⟩)) [zJ2 p rt bF bL bs]:=by
  refine⟨⟨rfl,hsc.lt,hF.lt,hL.lt,hbFL,hF,hL,.pointer none,hsc,rfl⟩,fun x hx=>?_⟩;rw[List.mem_singleton] at hx;subst hx;exact⟨(hI _).2 (.inr (.inl rfl)),(hI _).2 (.inr (.inr (.inl rfl))),(hI _).2 (.inr (.inr (.inr (.inl rfl))))⟩
 have hEK:EnvK objs [zJ2 p rt bF bL bs]:=fun x hx q hq=>by
  rw[List.mem_singleton] at hx;subst hx;have hq2:q.2∈bs:=(List.of_mem_zip hq).2;rw[←h.o1] at hq2;obtain⟨o,ho,e⟩:=List.mem_map.1 hq2;exact⟨o,ho,e⟩
 have huBm:∀ b∈uB,b∈bF ::bL ::(iB++uB):=fun b hb=>by simp[hb]
 have hnd:=hmn;rw[List.nodup_cons,List.nodup_cons,List.nodup_append] at hnd;have hmw:∀ b,(zn (⟨r,p.path,p.A,p.files.length,p.c,rt,Ai,ci,iB,Au,cu,uB,zX7 p.files,use⟩:RF) clo0 (⟨⟨tw,false,gs,objs,List.replicate p.files.length []⟩,av,fun b=>if b=rt then[zJ2 p rt bF bL bs] else[],()⟩:GS Unit) Im).Mut b→b < wz.heap.size∧w0.heap.size≤b:=fun b hb=>by
  have hs0:=h.lo.size;rcases hb with rfl | hb | ⟨o,ho,rfl⟩ | hb | hb
  ·exact⟨hrc.lt,by have:=h.nr;omega⟩
  ·have h2:=h1.mapLt b (huBm b hb);have h3:=h.ml b (huBm b hb);exact⟨by omega,by omega⟩
  ·have h2:=(h1.ob o ho).lt;have h3:=(h.lt o.blk (h.o1▸List.mem_map.2 ⟨o,ho,rfl⟩)).1;exact⟨by omega,by omega⟩
  ·have h2:=(zR9 hrow b hb).2;have h3:=hav b hb;exact⟨by omega,by omega⟩
  ·exact hb.elim
 have hok:(zn (⟨r,p.path,p.A,p.files.length,p.c,rt,Ai,ci,iB,Au,cu,uB,zX7 p.files,use⟩:RF) clo0 (⟨⟨tw,false,gs,objs,List.replicate p.files.length []⟩,av,fun b=>if b=rt then[zJ2 p rt bF bL bs] else[],()⟩:GS Unit) Im).Ok wz:=by
  refine⟨fun b hb=>?_,hImlt⟩;have hnew:=hmw b hb;refine⟨hnew.1,fun hi=>?_⟩;rcases hb with rfl | hb | ⟨o,ho,rfl⟩ | hb | hb
  ·rcases(hI _).1 hi with e | e | e | e | e | e | e
   ·have h9:=hnew.2;omega
   ·exact zQ1 h1.rc h1.sc (by decide) e
   ·exact hm bF (by simp) e.symm
   ·exact hm bL (by simp) e.symm
   ·exact hm _ (by simp[e]) rfl
   ·exact(h1.rowI e).1 rfl
   ·exact(h1.rowU e).1 rfl
  ·rcases(hI _).1 hi with e | rfl | rfl | rfl | e | e | e
   ·have h9:=hnew.2;omega
   ·exact h1.blkNeMap h1.sc _ (huBm _ hb) rfl
   ·exact hnd.1 (by simp[hb])
   ·exact hnd.2.1 (by simp[hb])
   ·exact hnd.2.2.2.2 b e b hb rfl
   ·exact(h1.rowI e).2.2.1 _ (huBm _ hb) rfl
   ·exact(h1.rowU e).2.2.1 _ (huBm _ hb) rfl
  ·rcases(hI _).1 hi with e | e | e | e | e | e | e
   ·have h9:=hnew.2;omega
   ·exact zQ1 (h1.ob o ho) h1.sc (by decide) e
   ·exact h1.blkNeMap (h1.ob o ho) bF (by simp) e
   ·exact h1.blkNeMap (h1.ob o ho) bL (by simp) e
   ·exact h1.blkNeMap (h1.ob o ho) _ (by simp[e]) rfl
   ·exact(h1.rowI e).2.2.2 _ (h.o1▸List.mem_map.2 ⟨o,ho,rfl⟩) rfl
   ·exact(h1.rowU e).2.2.2 _ (h.o1▸List.mem_map.2 ⟨o,ho,rfl⟩) rfl
  ·have h3:=hav b hb;rcases(hI _).1 hi with e | e | e | e | e | e | e
   ·have h9:=hnew.2;omega
   ·have:=h.sc.lt;omega
   ·have:=h.hF.lt;omega
   ·have:=h.hL.lt;omega
   ·have:=h.mapLt b (by simp[e]);omega
   ·have:=(zR9 h.vi b e).2;omega
   ·have:=(zR9 h.vu b e).2;omega
  ·exact hb.elim
 have hVi:=zU4 h1.vi hk fun b hb e=>(h1.rowI hb).1 e.symm;have hVu:=zU4 h1.vu hk fun b hb e=>(h1.rowU hb).1 e.symm;have hgl:gs.length≤bs.length:=by
  have h2:=hV.len (L:=zZ8 p.files) fun q hq=>by
   unfold fL at hq;rw[Option.isSome_map] at hq;obtain⟨c,hc⟩:=Option.isSome_iff_exists.1 hq;exact(List.of_mem_zip (zS9 hc)).1
  rw[List.length_map] at h2;omega
 have hol:objs.length=bs.length:=by rw[←h.o1,List.length_map]
 have hsum:=yW3 objs rt h.o3;have hsum2:(objs.map fun o=>2+wEs (zU3 o.d)).sum=wF p.files:=by
  have e:objs.map (fun o=>o.d)=zG3 p.files:=by
   have:=congrArg (List.map Prod.snd) h.o2;rw[List.map_map,zD7,List.take_length] at this;exact this
  rw[←xX6,←e,List.map_map];rfl
 have hbu:0+(gs.length+wObs objs+s)≤1099511627776:=by omega
 refine⟨⟨r,p.path,p.A,p.files.length,p.c,rt,Ai,ci,iB,Au,cu,uB,zX7 p.files,use⟩,⟨⟨tw,false,gs,objs,List.replicate p.files.length []⟩,av,fun b=>if b=rt then[zJ2 p rt bF bL bs] else[],()⟩,[zJ2 p rt bF bL bs],Im,rfl,rfl,huB,?_,?_,?_,hEnv,hEK,hlow,hIm0,hImN,fun b hb=>(hmw b hb).2⟩
 ·refine⟨⟨bF,bL,?_⟩,?_,h.o3,?_,htw,rfl,?_,rfl,rfl,fun _=>rfl⟩
  ·show [zJ2 p rt bF bL bs]=[zJ2 p rt bF bL (objs.map (·.blk))];rw[h.o1]
  ·have:=h.o2;rw[List.take_length] at this;exact this
  ·show (objs.map (·.blk)).Pairwise (· < ·);rw[h.o1];exact h.pw
  ·show ValsOf (fL ((zZ8 p.files).zip (objs.map (·.blk)))) (gs.map lptr);rw[h.o1];exact hV
 ·refine⟨⟨hrc,hrc.lt,⟨xX5 hVi,xX5 hVu,?_,?_,?_,fun b hb=>?_,fun b hb=>?_,?_,fun b hb hb2=>?_,fun j hj=>?_,fun j hj=>?_,fun j hj x hx=>?_,fun l hl=>?_⟩,⟨fun o ho=>hk.blk (h1.ob o ho) (zQ1 (h1.ob o ho) h1.rc (by decide)),fun o ho=>?_,?_⟩⟩,?_,trivial,hok,fun b hb=>hb.elim,fun b hb=>?_,⟨.inr fun a ha=>?_,.inr fun a ha=>?_,fun b hb=>(hI b).2 (.inr (.inr (.inr (.inr (.inl hb)))))⟩,fun o ho=>?_,hbu,?_⟩
  ·show (zX7 p.files).length=iB.length;rw[zX7,List.length_map,hiB]
  ·show (List.replicate p.files.length []).length=uB.length;rw[List.length_replicate,huB]
  ·show uB.length=iB.length;omega
  ·have:=h1.mapLt b (by simp[show b∈iB from hb]);omega
  ·have:=h1.mapLt b (huBm b hb);omega
  ·exact hnd.2.2.2.1
  ·exact hnd.2.2.2.2 b hb b hb2 rfl
  ·have:=List.getElem_mem hj;exact(h1.im j hj).keptK hk (hm _ (by simp[show iB[j]∈iB from this]))
  ·have hmem:uB[j]∈uB:=List.getElem_mem hj;have h2:=(h1.um j hj).keptK hk (hm _ (by simp[hmem]));show OMap KS wz uB[j] ((zX7 p.files).getD j []).length (fF ((List.replicate p.files.length []).getD j []));have e:(List.replicate p.files.length ([]:List Tx)).getD j []=[]:=by
    rw[List.getD_eq_getElem?_getD,List.getElem?_replicate];split <;> rfl
   rw[e];exact h2.tight _ fun x hx=>by simp[fF] at hx
  ·have e:(List.replicate p.files.length ([]:List Tx)).getD j []=[]:=by
    rw[List.getD_eq_getElem?_getD,List.getElem?_replicate];split <;> rfl
   have hx':x∈(List.replicate p.files.length ([]:List Tx)).getD j []:=hx;rw[e] at hx';cases hx'
  ·have hl':l∈zX7 p.files:=hl;obtain⟨f,hf,rfl⟩:=List.mem_map.1 hl';rw[List.length_map];have:=(hP.sz f hf).1;omega
  ·have:=(h1.ob o ho).lt;omega
  ·show (objs.map (·.blk)).Nodup;rw[h.o1];exact h.pw.imp fun {a b} hab=>by omega
  ·exact zU4 hrow hk fun b hb e=>(havne b hb).1 e
  ·exact⟨(havne b hb).1,fun hu=>(havne b hb).2.1 b (huBm b hu) rfl,(havne b hb).2.2⟩
  ·have ha':Ai=some a:=ha;subst ha';exact(hI _).2 (.inr (.inr (.inr (.inr (.inr (.inl rfl))))))
  ·have ha':Au=some a:=ha;subst ha';exact(hI _).2 (.inr (.inr (.inr (.inr (.inr (.inr rfl))))))
  ·have ho':o∈objs:=ho;have hmem:(o.file,o.d)∈tagF 0 p.files:=by
    have h2:=h.o2;rw[List.take_length] at h2;rw[←h2];exact List.mem_map.2 ⟨o,ho',rfl⟩
   obtain⟨h2,_,h3⟩:=yG1 hmem;have hfm:=List.getElem_mem h2;have hlt:o.d∈p.files[o.file-0].decls:=(List.mem_filter.1 h3).1;have hk4:yY1 o.d=true:=(List.mem_filter.1 h3).2;have hosc:o.sc=rt:=by rw[h.o3 o ho'];rfl
   have hoi:=OkIds.at_ (hds _ hfm).2 hlt;have hd1:=hD_le hlt;have hd2:=hh _ hfm;refine⟨?_,hoi,?_,?_,?_,?_,?_⟩
   ·generalize o.d=d at hoi hk4;obtain⟨k,pr,lb,a,b,As,cs,subs,Ab,cb,body,At,ct,tail,Al,cl,lead,tr,pos⟩:=d;have h4:subs.length=1:=hoi.1.2 (of_decide_eq_true (show decide (k=4)=true from hk4));obtain⟨e,rfl⟩:=List.length_eq_one_iff.1 h4;exact⟨e,rfl⟩
   ·show EnvI Im wz (.pointer (some ⟨o.sc,0,none⟩)) (if o.sc=rt then _ else _);rw[if_pos hosc,hosc];exact hEnv
   ·show EnvK objs (if o.sc=rt then _ else _);rw[if_pos hosc];exact hEK
   ·show (if o.sc=rt then _ else _:List ScA).length+hD o.d≤1000;rw[if_pos hosc];simp only[List.length_singleton];omega
   ·show o.file < uB.length;omega
   ·show OkI Im wz o.ex;rw[h.o3 o ho'];exact yT7 _ _
  ·show wObs objs+s≤_;omega
 ·exact⟨rfl,(zQ5 hPB.files hB hP.nf).kept hk00 (fun _ _ h=>h) hIm0,hds,fun f hf=>⟨(zQ5 (hPB.each f hf).tail hB (hP.sz f hf).2.2.2).kept hk00 (fun _ _ h=>h) hIm0,(zQ5 (hPB.each f hf).imps hB (hP.sz f hf).1).kept hk00 (fun _ _ h=>h) hIm0⟩⟩
end Go.Proofs.YtdgehhgjgifikaaGreatDoor
