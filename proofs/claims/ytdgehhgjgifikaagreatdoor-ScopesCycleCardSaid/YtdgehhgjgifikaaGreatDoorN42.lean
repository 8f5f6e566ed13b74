/- What the claim needs of:QJ. -/
import Derived.Test.YtdgehhgjgifikaaGreatDoorN41
import Derived.Test.YtdgehhgjgifikaaGreatDoorN5
namespace Go.Proofs.YtdgehhgjgifikaaGreatDoor
open Go.RowKit Go.Sort
theorem zK5 (s:Tx)(pos:Int)(w:World):Calls Tryz.prog 33 #[.string ⟨s.toArray⟩,.int .i64 pos] w fun e w'=>e=.returned (.agg #[.int .i64 10,.string ⟨s.toArray⟩,.int .i64 0,.string ⟨#[]⟩,.string ⟨#[]⟩,.slice none 0 0,.slice none 0 0,.slice none 0 0,.int .i64 pos])∧Below w.heap.size w w':=name_any s pos w
theorem yC8 (n:Int)(hn:-900000000000000 < n*10000∧n*10000 < 900000000000000)(w:World):Calls Tryz.prog 32 #[.int .i64 n] w fun e w'=>e=.returned (.agg #[.int .i64 3,.string ⟨#[]⟩,.int .i64 (n*10000),.string ⟨#[]⟩,.string ⟨#[]⟩,.slice none 0 0,.slice none 0 0,.slice none 0 0,.int .i64 0])∧Below w.heap.size w w':=yC7 n hn w
def SlT {α:Type}(k:Nat)(enc:α→List Value)(ty:TypeId)(A:Option Addr)(l:List α)(W:World):Prop:=SlN W W.heap.size k enc A l∧zM7 W ty A
theorem SlT.below {α:Type}{k:Nat}{enc:α→List Value}{ty:TypeId}{A:Option Addr}{l:List α}{W W':World}(h:SlT k enc ty A l W)(hb:Below W.heap.size W W'):SlT k enc ty A l W':=
 ⟨(h.1.below hb).more hb.size,fun a ha=>by
   obtain⟨cs,hc⟩:=h.2 a ha
   exact⟨cs,hc.keep hb⟩⟩
theorem SlT.write {α:Type}{k:Nat}{enc:α→List Value}{ty ty':TypeId}{A:Option Addr}{l:List α}{W W':World}{g:Nat}{cs:Array Value}(h:SlT k enc ty A l W)(hg:Blk W g ty' cs)(hne:ty≠ty')(hk:Kp (· = g) W W'):SlT k enc ty A l W':=by
 have hn:∀ a,A=some a→¬ a.block=g:=fun a ha e=>by
  obtain⟨cs',hc⟩:=h.2 a ha
  rw[e] at hc
  exact hne (hc.inj hg).1
 exact⟨⟨(hk.sl h.1.1 (Nat.le_refl _) fun b hb=>by
  cases A with
  | none=>cases hb
  | some a=>injection hb with hb;exact hb▸hn a rfl).more hk.size,h.1.2⟩,fun a ha=>by
  obtain⟨cs',hc⟩:=h.2 a ha
  exact⟨cs',hk.blk hc (hn a ha)⟩⟩
theorem zJ3 {α:Type}{k:Nat}{enc:α→List Value}{ty:TypeId}{cs:Array Value}{l:List α}(W:World)(hk:∀ x,(enc x).length=k)(e:cs.toList=l.flatMap enc)(hl:l.length≤1099511627776):SlT k enc ty (some ⟨W.heap.size,0,none⟩) l (W.alloc (.cells cs ty)):=
 ⟨⟨(Blk.new W ty cs).sl hk l e,hl⟩,fun a ha=>by injection ha with ha;subst ha;exact⟨_,Blk.new W ty cs⟩⟩
theorem yC9 (s:Tx)(x:EA)(w:World)(hs:s.length≤maxLen)(hx:OkA w w.heap.size x):Calls Tryz.prog 34 #[.string ⟨s.toArray⟩,.agg (encE x).toArray] w fun e w'=>∃ A,e=.returned (.agg #[.int .i64 4,.int .i64 0,.string ⟨s.toArray⟩,.string ⟨#[]⟩,.string ⟨#[]⟩,.slice A 1 1,.slice none 0 0,.slice none 0 0,.slice none 0 0,.string ⟨#[]⟩,.int .i64 0])∧SlT 9 encE 67 A [x] w'∧Below w.heap.size w w':=by
 refine(let_any s x w hs hx).mono ?_
 rintro e w' ⟨A,rfl,h1,h2,h3⟩
 exact⟨A,rfl,⟨h1.2.1,h2⟩,h3⟩
theorem yZ1 (s:Tx)(x:EA)(w:World)(hs:s.length≤maxLen)(hx:OkA w w.heap.size x):Calls Tryz.prog 38 #[.string ⟨s.toArray⟩,.agg (encE x).toArray] w fun e w'=>∃ A,e=.returned (.agg #[.int .i64 1,.int .i64 1,.string ⟨s.toArray⟩,.string ⟨#[]⟩,.string ⟨#[]⟩,.slice A 1 1,.slice none 0 0,.slice none 0 0,.slice none 0 0,.string ⟨#[]⟩,.int .i64 0])∧SlT 9 encE 67 A [x] w'∧Below w.heap.size w w':=by
 refine(xU0 s x w hs hx).mono ?_
 rintro e w' ⟨A,rfl,h1,h2,h3⟩
 exact⟨A,rfl,⟨h1.2.1,h2⟩,h3⟩
theorem xU2 (A:Option Addr)(c:Nat)(l:List DA)(w:World)(hl:SlN w w.heap.size 11 encD A l)(hd:OkAds w w.heap.size l):Calls Tryz.prog 35 #[.slice A l.length c] w fun e w'=>∃ A',e=.returned (.agg #[.string ⟨#[]⟩,.slice A' 1 1])∧SlT 4 encF 58 A' [⟨[],none,0,[],A,c,l,none,0,[]⟩] w'∧Below w.heap.size w w':=by
 refine(yS8 A c l w hl hd).mono ?_
 rintro e w' ⟨A',rfl,h1,⟨g,rfl,_,h2⟩,h3⟩
 exact⟨_,rfl,⟨h1.files,fun a ha=>by injection ha with ha;subst ha;exact⟨_,h2⟩⟩,h3⟩
theorem zE7 {w w':World}(hb:Below w.heap.size w w'){x:List DA}(h:OkAds w w.heap.size x):OkAds w' w'.heap.size x:=(zW9 hb.size).2.2.2 _ ((zX8 hb).2.2.2 _ h)
theorem slN_up {α:Type}{w w':World}{k:Nat}{enc:α→List Value}{A:Option Addr}{l:List α}(hb:Below w.heap.size w w')(h:SlN w w.heap.size k enc A l):SlN w' w'.heap.size k enc A l:=(h.below hb).more hb.size
theorem yG7 {w w':World}(hb:Below w.heap.size w w'){p:PA}(h:OkP w w.heap.size p):OkP w' w'.heap.size p:=(h.below hb).more hb.size
theorem sl_up2 {α:Type}{w w':World}{k:Nat}{enc:α→List Value}{A:Option Addr}{l:List α}(hb:Below w.heap.size w w')(h:Sl w w.heap.size k enc A l):Sl w' w'.heap.size k enc A l:=(h.below hb).more hb.size
theorem zX2 {α:Type}{w w':World}{k:Nat}{enc:α→List Value}{A:Option Addr}{l:List α}(hb:Below w.heap.size w w')(h:Sl w w.heap.size k enc A l):Sl w' w'.heap.size k enc A l:=(h.below hb).more hb.size
theorem yG8 {w:World}{A:Option Addr}(h:SlN w w.heap.size 9 encE A [nmE [97] 2,nmE [107] 3]):OkA w w.heap.size (zK4 A):=
 ⟨⟨Nat.zero_le _,by decide,by decide⟩,h,⟨zQ8 (by decide),zQ8 (by decide),trivial⟩,⟨.inl rfl,Nat.zero_le _⟩,trivial,⟨.inl rfl,Nat.zero_le _⟩⟩
theorem yG9 {w:World}{A2 A:Option Addr}(h:SlN w w.heap.size 9 encE A2 [zK4 A,nmE [120] 4])(h2:OkA w w.heap.size (zK4 A)):OkA w w.heap.size (zH3 A2 A):=
 ⟨⟨Nat.zero_le _,Nat.zero_le _,Nat.zero_le _⟩,h,⟨h2,zQ8 (by decide),trivial⟩,⟨.inl rfl,Nat.zero_le _⟩,trivial,⟨.inl rfl,Nat.zero_le _⟩⟩
theorem zF2 {w:World}{A:Option Addr}{c:Nat}{l:List DA}(h:SlN w w.heap.size 11 encD A l)(h2:OkAds w w.heap.size l):OkA w w.heap.size (zH4 A c l):=
 ⟨⟨Nat.zero_le _,Nat.zero_le _,Nat.zero_le _⟩,⟨.inl rfl,Nat.zero_le _⟩,trivial,h,h2,⟨.inl rfl,Nat.zero_le _⟩⟩
theorem okF_of {w:World}{A:Option Addr}{c:Nat}{l:List DA}(h:SlN w w.heap.size 11 encD A l)(h2:OkAds w w.heap.size l):OkF w w.heap.size ⟨[],none,0,[],A,c,l,none,0,[]⟩:=
 ⟨Nat.zero_le _,⟨.inl rfl,Nat.zero_le _⟩,fun _ h=>(by cases h),h,h2,⟨.inl rfl,Nat.zero_le _⟩⟩
theorem zE8 {w:World}{s:Tx}{A:Option Addr}{x:EA}(hs:s.length≤maxLen)(h:SlN w w.heap.size 9 encE A [x])(hx:OkA w w.heap.size x):OkAd w w.heap.size (letD s A x):=
 ⟨⟨hs,Nat.zero_le _,Nat.zero_le _,Nat.zero_le _⟩,h,⟨hx,trivial⟩,⟨.inl rfl,Nat.zero_le _⟩,trivial,⟨.inl rfl,Nat.zero_le _⟩,⟨.inl rfl,Nat.zero_le _⟩⟩
theorem zT0 {w:World}{s:Tx}{A:Option Addr}{x:EA}(hs:s.length≤maxLen)(h:SlN w w.heap.size 9 encE A [x])(hx:OkA w w.heap.size x):OkAd w w.heap.size (fldD s A x):=
 ⟨⟨hs,Nat.zero_le _,Nat.zero_le _,Nat.zero_le _⟩,h,⟨hx,trivial⟩,⟨.inl rfl,Nat.zero_le _⟩,trivial,⟨.inl rfl,Nat.zero_le _⟩,⟨.inl rfl,Nat.zero_le _⟩⟩
structure Ex1d (A A1 Aa Ab Ac A2:Option Addr)(W:World):Prop where
 d:SlT 11 encD 71 A (ex1 Aa Ab Ac A2 A1) W
 a:SlT 9 encE 67 Aa [numE 10000] W
 b:SlT 9 encE 67 Ab [nmE [108] 1] W
 c:SlT 9 encE 67 Ac [zH3 A2 A1] W
 l:SlT 9 encE 67 A2 [zK4 A1,nmE [120] 4] W
 e:SlT 9 encE 67 A1 [nmE [97] 2,nmE [107] 3] W
section
variable {A A1 Aa Ab Ac A2:Option Addr}{W W':World}
theorem Ex1d.below (h:Ex1d A A1 Aa Ab Ac A2 W)(hb:Below W.heap.size W W'):Ex1d A A1 Aa Ab Ac A2 W':=⟨h.d.below hb,h.a.below hb,h.b.below hb,h.c.below hb,h.l.below hb,h.e.below hb⟩
theorem Ex1d.write {g:Nat}{cs:Array Value}(h:Ex1d A A1 Aa Ab Ac A2 W)(hg:Blk W g 24 cs)(hk:Kp (· = g) W W'):Ex1d A A1 Aa Ab Ac A2 W':=
 ⟨h.d.write hg (by decide) hk,h.a.write hg (by decide) hk,h.b.write hg (by decide) hk,h.c.write hg (by decide) hk,h.l.write hg (by decide) hk,h.e.write hg (by decide) hk⟩
theorem Ex1d.ok (h:Ex1d A A1 Aa Ab Ac A2 W):OkAds W W.heap.size (ex1 Aa Ab Ac A2 A1):=
 ⟨zE8 (by decide) h.a.1 zP7,zT0 (by decide) h.b.1 (zQ8 (by decide)),zT0 (by decide) h.c.1 (yG9 h.l.1 (yG8 h.e.1)),trivial⟩
theorem xU3 {A':Option Addr}{c:Nat}{l:List DA}(h:SlN W W.heap.size 4 encF A' [⟨[],none,0,[],A,c,l,none,0,[]⟩])(hd:SlN W W.heap.size 11 encD A l)(hok:OkAds W W.heap.size l):OkP W W.heap.size (pkA A' A c l):=
 ⟨Nat.zero_le _,h,fun f hf=>by
  rw[List.mem_singleton.1 hf]
  exact okF_of hd hok⟩
end
theorem pat1:PatDs (RxOk rxT) (plDs (ex1 none none none none none)):=by simp[ex1,letD,fldD,zH3,zK4,numE,nmE,plDs,plD,plEs,plE,PatDs,PatD,PatEs,PatE]
theorem pat2:PatDs (RxOk rxT) (plDs (ex2 none none)):=by simp[ex2,letD,nmE,plDs,plD,plEs,plE,PatDs,PatD,PatEs,PatE]
theorem pat3:PatDs (RxOk rxT) (plDs (ex3 none none none none none)):=by simp[ex3,fldD,zH4,numE,nmE,plDs,plD,plEs,plE,PatDs,PatD,PatEs,PatE]
theorem yN6 {W:World}{A' A:Option Addr}{c:Nat}{l:List DA}{P:Pk}(h:OkP W W.heap.size (pkA A' A c l))(hp:plP (pkA A' A c l)=P)(hn:ndFs P.files≤1048576):PkS W (pkA A' A c l):=⟨h,by rw[hp];exact hn⟩
theorem zA1 {A' A:Option Addr}{c:Nat}{l:List DA}(h:PatDs (RxOk rxT) (plDs l)):∀ f∈(pkA A' A c l).files,PatDs (RxOk rxT) (plDs f.decls):=fun f hf=>by
 rw[List.mem_singleton.1 hf]
 exact h
def RU (us:List Us)(w:World)(e:Ending)(w':World):Prop:=∃ A c,e=.returned (.tuple #[.slice A us.length c,.int .i64 0])∧Sl w' w'.heap.size 5 encU A us∧Below w.heap.size w w'
theorem xU4 {P:Pk}{us:List Us}{A' A:Option Addr}{c:Nat}{l:List DA}(W:World)(hok:OkP W W.heap.size (pkA A' A c l))(hpl:plP (pkA A' A c l)=P)(hU:zS9 rxT P=(us,0))(hnd:ndFs P.files≤1048576)(hpat:PatDs (RxOk rxT) (plDs l))(hG:Glob W) :
  Calls Tryz.prog 14 #[.agg #[.string ⟨#[]⟩,.slice A' 1 1]] W (RU us W):=by
 have h:=xV8 rxT (pkA A' A c l) W (yN6 hok hpl hnd) (zA1 hpat) hG
 rw[hpl,hU] at h
 refine h.mono ?_
 rintro e W' ⟨A,c,rfl,h1,_,h2,_⟩
 exact⟨A,c,rfl,h1,h2⟩
theorem undef_pk {P:Pk}{us:List Us}{A' A:Option Addr}{c:Nat}{l:List DA}(W:World)(hok:OkP W W.heap.size (pkA A' A c l))(hpl:plP (pkA A' A c l)=P)(hU:zF6 rxT P=(us,0))(hnd:ndFs P.files≤1048576)(hpat:PatDs (RxOk rxT) (plDs l))(hG:Glob W) :
  Calls Tryz.prog 16 #[.agg #[.string ⟨#[]⟩,.slice A' 1 1]] W (RU us W):=by
 have h:=yN5 rxT (pkA A' A c l) W (yN6 hok hpl hnd) (zA1 hpat) hG
 rw[hpl,hU] at h
 refine h.mono ?_
 rintro e W' ⟨A,c,rfl,h1,_,h2,_⟩
 exact⟨A,c,rfl,h1,h2⟩
theorem decl_pk {P:Pk}{ts:List Tx}{A' A:Option Addr}{c:Nat}{l:List DA}(W:World)(hok:OkP W W.heap.size (pkA A' A c l))(hpl:plP (pkA A' A c l)=P)(hU:zN8 rxT P=(ts,0))(hnd:ndFs P.files≤1048576)(hpat:PatDs (RxOk rxT) (plDs l))(hG:Glob W) :
  Calls Tryz.prog 21 #[.agg #[.string ⟨#[]⟩,.slice A' 1 1]] W (fun e w'=>∃ A c,e=.returned (.tuple #[.slice A ts.length c,.int .i64 0])∧Sl w' w'.heap.size 1 encS A ts∧Below W.heap.size W w'):=by
 have h:=yK6 rxT (pkA A' A c l) W (yN6 hok hpl hnd) (zA1 hpat) hG
 rw[hpl,hU] at h
 exact h
theorem xU5 {A' A Aa Ab Ac A2 A1:Option Addr}{c:Nat}(W:World)(hok:OkP W W.heap.size (pkA A' A c (ex1 Aa Ab Ac A2 A1)))(hG:Glob W) :
  Calls Tryz.prog 19 #[.agg #[.string ⟨#[]⟩,.slice A' 1 1]] W (fun e w'=>∃ A c,e=.returned (.tuple #[.slice A 0 c,.int .i64 0])∧Below W.heap.size W w'):=by
 have h:=xV9 rxT (pkA A' A c (ex1 Aa Ab Ac A2 A1)) W (yN6 hok (P:=P1) rfl nd1) (zA1 pat1) hG
 refine h.mono ?_
 rintro e W' ⟨ds,⟨A5,c5,rfl,_,_,hb⟩,_,h2⟩
 obtain⟨R,σ0,σ,env,rs,hR,hV,hds⟩:=h2 err1
 have hu:=ex1_used hR hV
 have h0:unA σ.ρ.objs σ.ρ.all=[]:=by
  unfold unA
  rw[List.flatMap_eq_nil_iff]
  intro b _
  unfold unB
  split
  ·rename_i o ho
   rw[if_pos (hu o (List.mem_of_find?_eq_some ho))]
  ·rfl
 have h1:impU σ.ρ.usedI 0 (pkA A' A c (ex1 Aa Ab Ac A2 A1)).files=[]:=rfl
 have h3:ds=[]:=by
  rw[hds,h0,h1]
  simp[srtD]
 subst h3
 exact⟨A5,_,by rw[show errP rxT (plP (pkA A' _ _ (ex1 Aa Ab Ac A2 A1)))=0 from err1];rfl,hb⟩
theorem yB0 {A' A Aa Ab:Option Addr}{c:Nat}(W:World)(hok:OkP W W.heap.size (pkA A' A c (ex2 Aa Ab)))(hG:Glob W) :
  Calls Tryz.prog 25 #[.agg #[.string ⟨#[]⟩,.slice A' 1 1]] W (fun e w'=>e=.returned (.tuple #[.agg #[.string ⟨#[]⟩,.slice none 0 0],.int .i64 15])∧Below W.heap.size W w'):=by
 have h:=yX8 rxT (pkA A' A c (ex2 Aa Ab)) W (yN6 hok (P:=P2) rfl nd2) (zA1 pat2) hG
 refine h.mono ?_
 rintro e W' ⟨hb,q,err,rfl,_,hr,_,h2⟩
 have he:err=15:=by
  rcases hr with ⟨h3,_⟩ | ⟨_,_,_,h3⟩ | ⟨_,N,rs,dp,h3,_⟩
  ·exact absurd err2 h3
  ·exact h3
  ·have:rzP N P2.files=some (rs,dp):=h3
   rw[rz2] at this
   cases this
 subst he
 obtain⟨k1,k2,k3,k4⟩:=h2 (by decide)
 obtain⟨qp,qA,qc,qf⟩:=q
 simp only at k1 k2 k3 k4
 subst k1 k2 k3 k4
 exact⟨rfl,hb⟩
set_option maxRecDepth 100000 in
theorem zJ4 {o:Oper}{P:Program}{Q:Exit→Act→World→Prop}{K:Act→World→Prop}{W:World}{fs:List Fact}{G:Act→Prop}(aa ab ac ad ae af ag ah ai aj ak al am an ao ap aq ar au av aw ax ay az aA aB aC aD aE aF aG aH aI aJ aK aL aM aN aO aP aQ aR aS aT aU aV aW aX aY aZ a0 a1 a2 a3 a4 a5 a6 a7 a8 a9 ba bb bc bd be bf bg bh bi bj bk bl bm bn bo bp bq br bs bt bu bv bw bx bz bA bB bC bD bE bF bG bH bI bJ bK bL bM bN bO bP bQ bR bS bT bU bV bW bX bY bZ b0 b1 b2 b3 b4 b5 b6 b7 b8 b9 ca cb cc cd ce cf cg ch ci cj ck cl cm cn co cp cq cr cs ct cu cv cw cx cy cz cA cB cC cD cE cF cG cH cI cJ cK cL cM cN cO cP cQ cR cS cT cU cV cW cX cY cZ c0 c1 c2 c3:Value)(hG:∀ A,o.wp P A W K Q→G A)(h:o.wp P (Act.mk #[aa,ab,c3,ad,ae,af,ag,ah,ai,aj,ak,al,am,an,ao,ap,aq,ar,au,av,cS,cT,cU,cV,cW,cX,cY,cZ,c0,c1,c2,aH,aI,aJ,aK,aL,aM,aN,aO,aP,aQ,aR,aS,aT,aU,aV,aW,aX,aY,aZ,a0,a1,a2,a3,a4,a5,a6,a7,a8,a9,ba,bb,bc,bd,be,bf,bg,bh,bi,bj,bk,bl,bm,bn,bo,bp,bq,br,bs,bt,bu,bv,bw,bx,bz,bA,bB,bC,bD,bE,bF,bG,bH,bI,bJ,bK,bL,bM,bN,bO,bP,bQ,bR,bS,bT,bU,bV,bW,bX,bY,bZ,b0,b1,b2,b3,b4,b5,b6,b7,b8,b9,ca,cb,cc,cd,ce,cf,cg,ch,ci,cj,ck,cl,cm,cn,co,cp,cq,cr,cs,ct,cu,cv,cw,cx,cy,cz,cA,cB,cC,cD,cE,cF,cG,cH,cI,cJ,cK,cL,cM,cN,cO,cP,cQ,cR] []) W K Q):zX1 W G [] fs (Act.put (Act.put (Act.put (Act.put (Act.put (Act.put (Act.put (Act.put (Act.put (Act.put (Act.put (Act.put (Act.mk #[aa,ab,ac,ad,ae,af,ag,ah,ai,aj,ak,al,am,an,ao,ap,aq,ar,au,av,aw,ax,ay,az,aA,aB,aC,aD,aE,aF,aG,aH,aI,aJ,aK,aL,aM,aN,aO,aP,aQ,aR,aS,aT,aU,aV,aW,aX,aY,aZ,a0,a1,a2,a3,a4,a5,a6,a7,a8,a9,ba,bb,bc,bd,be,bf,bg,bh,bi,bj,bk,bl,bm,bn,bo,bp,bq,br,bs,bt,bu,bv,bw,bx,bz,bA,bB,bC,bD,bE,bF,bG,bH,bI,bJ,bK,bL,bM,bN,bO,bP,bQ,bR,bS,bT,bU,bV,bW,bX,bY,bZ,b0,b1,b2,b3,b4,b5,b6,b7,b8,b9,ca,cb,cc,cd,ce,cf,cg,ch,ci,cj,ck,cl,cm,cn,co,cp,cq,cr,cs,ct,cu,cv,cw,cx,cy,cz,cA,cB,cC,cD,cE,cF,cG,cH,cI,cJ,cK,cL,cM,cN,cO,cP,cQ,cR] []) (some 20) cS) (some 21) cT) (some 22) cU) (some 23) cV) (some 24) cW) (some 25) cX) (some 26) cY) (some 27) cZ) (some 28) c0) (some 29) c1) (some 30) c2) (some 2) c3):=
 zT9 (by kernel_rfl) hG h
set_option maxRecDepth 100000 in
theorem zJ5 {Q:Exit→Act→World→Prop}{W:World}{fs:List Fact}(aa ab ac ad ae af ag ah ai aj ak al am an ao ap aq ar au av aw ax ay az aA aB aC aD aE aF aG aH aI aJ aK aL aM aN aO aP aQ aR aS aT aU aV aW aX aY aZ a0 a1 a2 a3 a4 a5 a6 a7 a8 a9 ba bb bc bd be bf bg bh bi bj bk bl bm bn bo bp bq br bs bt bu bv bw bx bz bA bB bC bD bE bF bG bH bI bJ bK bL bM bN bO bP bQ bR bS bT bU bV bW bX bY bZ b0 b1 b2 b3 b4 b5 b6 b7 b8 b9 ca cb cc cd ce cf cg ch ci cj ck cl cm cn co cp cq cr cs ct cu cv cw cx cy cz cA cB cC cD cE cF cG cH cI cJ cK cL cM cN cO cP cQ cR cS cT cU cV cW cX cY cZ c0 c1 c2 c3 c4 c5 c6 c7 c8 c9 da db dc dd de df dg dh di dj dk dl dm dn dp dq dr ds dt du dv dw dx dy dz dA dB dC dD dE:Value)(h:Q .normal (Act.mk #[dE,ab,ac,ad,ae,af,ag,ah,ai,aj,ak,al,am,an,ao,ap,aq,ar,au,av,aw,ax,ay,az,aA,aB,aC,aD,aE,aF,aG,aH,aI,aJ,aK,aL,aM,aN,aO,aP,aQ,aR,aS,aT,aU,aV,aW,aX,aY,aZ,a0,a1,a2,a3,a4,a5,a6,a7,a8,a9,ba,bb,bc,bd,be,bf,bg,bh,bi,bj,bk,bl,bm,bn,bo,bp,bq,br,bs,bt,bu,bv,bw,bx,bz,bA,bB,bC,bD,bE,bF,bG,bH,bI,bJ,bK,bL,bM,bN,bO,bP,bQ,bR,bS,bT,bU,bV,bW,bX,bY,bZ,b0,b1,b2,b3,b4,b5,b6,cS,cT,cU,cV,cW,cX,cY,cZ,c0,c1,c2,c3,c4,c5,c6,c7,c8,c9,da,db,dc,dd,de,df,dg,dh,di,dj,dk,dl,dm,dn,dp,dq,dr,ds,dt,du,dv,dw,dx,dy,dz,dA,dB,dC,dD] []) W):zX1 W (fun A=>Q .normal A W) [] fs (Act.put (Act.put (Act.put (Act.put (Act.put (Act.put (Act.put (Act.put (Act.put (Act.put (Act.put (Act.put (Act.put (Act.put (Act.put (Act.put (Act.put (Act.put (Act.put (Act.put (Act.put (Act.put (Act.put (Act.put (Act.put (Act.put (Act.put (Act.put (Act.put (Act.put (Act.put (Act.put (Act.put (Act.put (Act.put (Act.put (Act.put (Act.put (Act.put (Act.put (Act.put (Act.put (Act.put (Act.put (Act.put (Act.put (Act.put (Act.put (Act.mk #[aa,ab,ac,ad,ae,af,ag,ah,ai,aj,ak,al,am,an,ao,ap,aq,ar,au,av,aw,ax,ay,az,aA,aB,aC,aD,aE,aF,aG,aH,aI,aJ,aK,aL,aM,aN,aO,aP,aQ,aR,aS,aT,aU,aV,aW,aX,aY,aZ,a0,a1,a2,a3,a4,a5,a6,a7,a8,a9,ba,bb,bc,bd,be,bf,bg,bh,bi,bj,bk,bl,bm,bn,bo,bp,bq,br,bs,bt,bu,bv,bw,bx,bz,bA,bB,bC,bD,bE,bF,bG,bH,bI,bJ,bK,bL,bM,bN,bO,bP,bQ,bR,bS,bT,bU,bV,bW,bX,bY,bZ,b0,b1,b2,b3,b4,b5,b6,b7,b8,b9,ca,cb,cc,cd,ce,cf,cg,ch,ci,cj,ck,cl,cm,cn,co,cp,cq,cr,cs,ct,cu,cv,cw,cx,cy,cz,cA,cB,cC,cD,cE,cF,cG,cH,cI,cJ,cK,cL,cM,cN,cO,cP,cQ,cR] []) (some 118) cS) (some 119) cT) (some 120) cU) (some 121) cV) (some 122) cW) (some 123) cX) (some 124) cY) (some 125) cZ) (some 126) c0) (some 127) c1) (some 128) c2) (some 129) c3) (some 130) c4) (some 131) c5) (some 132) c6) (some 133) c7) (some 134) c8) (some 135) c9) (some 136) da) (some 137) db) (some 138) dc) (some 139) dd) (some 140) de) (some 141) df) (some 142) dg) (some 143) dh) (some 144) di) (some 145) dj) (some 146) dk) (some 147) dl) (some 148) dm) (some 149) dn) (some 150) dp) (some 151) dq) (some 152) dr) (some 153) ds) (some 154) dt) (some 155) du) (some 156) dv) (some 157) dw) (some 158) dx) (some 159) dy) (some 160) dz) (some 161) dA) (some 162) dB) (some 163) dC) (some 164) dD) (some 0) dE):=
 zM2 (by kernel_rfl) h
set_option maxRecDepth 100000 in
set_option maxHeartbeats 16000000 in
theorem zS2 (w:World)(hG:Glob w):Calls Tryz.prog 13 #[] w fun e w'=>e=.returned (.bool true)∧Below w.heap.size w w':=by
 have HG:=Lib.hid hG
 clear hG
 go_enter Tryz.func13,Tryz.ntmps13
 go_upto_region 1 with fail
 go_wp2_with fail
 refine(zK5 [97] 2 w).mono ?_
 rintro e wa ⟨rfl,hba⟩
 go_wp2_with fail
 refine(zK5 [107] 3 wa).mono ?_
 rintro e wb ⟨rfl,hbb⟩
 have HB0:=Lib.hid (hba.trans (hbb.mono hba.size))
 clear hba hbb
 have hb3:Below wb.heap.size wb ((wb.alloc (.cells #[.int .i64 10,.string ⟨#[97]⟩,.int .i64 0,.string ⟨#[]⟩,.string ⟨#[]⟩,.slice none 0 0,.slice none 0 0,.slice none 0 0,.int .i64 2,.int .i64 10,.string ⟨#[107]⟩,.int .i64 0,.string ⟨#[]⟩,.string ⟨#[]⟩,.slice none 0 0,.slice none 0 0,.slice none 0 0,.int .i64 3] 67)).alloc (.cells #[.int .i64 15,.string ⟨#[]⟩,.int .i64 0,.string ⟨#[107]⟩,.string ⟨#[118]⟩,.slice (some ⟨wb.heap.size,0,none⟩) 2 2,.slice none 0 0,.slice none 0 0,.int .i64 0] 67)):=((Below.refl wb.heap.size wb).alloc (Nat.le_refl _) _).alloc (by simp) _
 have HE1:=Lib.hid ((zJ3 (ty:=67) (cs:=#[.int .i64 10,.string ⟨#[97]⟩,.int .i64 0,.string ⟨#[]⟩,.string ⟨#[]⟩,.slice none 0 0,.slice none 0 0,.slice none 0 0,.int .i64 2,.int .i64 10,.string ⟨#[107]⟩,.int .i64 0,.string ⟨#[]⟩,.string ⟨#[]⟩,.slice none 0 0,.slice none 0 0,.slice none 0 0,.int .i64 3]) (l:=[nmE [97] 2,nmE [107] 3]) wb zP0 rfl (by simp)).below ((Below.refl _ _).alloc (Nat.le_refl _) (.cells #[.int .i64 15,.string ⟨#[]⟩,.int .i64 0,.string ⟨#[107]⟩,.string ⟨#[118]⟩,.slice (some ⟨wb.heap.size,0,none⟩) 2 2,.slice none 0 0,.slice none 0 0,.int .i64 0] 67)))
 have X3:=Lib.hid (show Blk ((wb.alloc (.cells #[.int .i64 10,.string ⟨#[97]⟩,.int .i64 0,.string ⟨#[]⟩,.string ⟨#[]⟩,.slice none 0 0,.slice none 0 0,.slice none 0 0,.int .i64 2,.int .i64 10,.string ⟨#[107]⟩,.int .i64 0,.string ⟨#[]⟩,.string ⟨#[]⟩,.slice none 0 0,.slice none 0 0,.slice none 0 0,.int .i64 3] 67)).alloc (.cells #[.int .i64 15,.string ⟨#[]⟩,.int .i64 0,.string ⟨#[107]⟩,.string ⟨#[118]⟩,.slice (some ⟨wb.heap.size,0,none⟩) 2 2,.slice none 0 0,.slice none 0 0,.int .i64 0] 67)) (wb.heap.size+1) 67 #[.int .i64 15,.string ⟨#[]⟩,.int .i64 0,.string ⟨#[107]⟩,.string ⟨#[118]⟩,.slice (some ⟨wb.heap.size,0,none⟩) 2 2,.slice none 0 0,.slice none 0 0,.int .i64 0] from by
  have:=Blk.new (wb.alloc (.cells #[.int .i64 10,.string ⟨#[97]⟩,.int .i64 0,.string ⟨#[]⟩,.string ⟨#[]⟩,.slice none 0 0,.slice none 0 0,.slice none 0 0,.int .i64 2,.int .i64 10,.string ⟨#[107]⟩,.int .i64 0,.string ⟨#[]⟩,.string ⟨#[]⟩,.slice none 0 0,.slice none 0 0,.slice none 0 0,.int .i64 3] 67)) 67 #[.int .i64 15,.string ⟨#[]⟩,.int .i64 0,.string ⟨#[107]⟩,.string ⟨#[118]⟩,.slice (some ⟨wb.heap.size,0,none⟩) 2 2,.slice none 0 0,.slice none 0 0,.int .i64 0]
  rw[World.size_alloc] at this
  exact this)
 have HB3:=Lib.hid (HB0.out.trans (hb3.mono HB0.out.size))
 clear hb3
 go_upto_region 2 with fail
 generalize ((wb.alloc (.cells #[.int .i64 10,.string ⟨#[97]⟩,.int .i64 0,.string ⟨#[]⟩,.string ⟨#[]⟩,.slice none 0 0,.slice none 0 0,.slice none 0 0,.int .i64 2,.int .i64 10,.string ⟨#[107]⟩,.int .i64 0,.string ⟨#[]⟩,.string ⟨#[]⟩,.slice none 0 0,.slice none 0 0,.slice none 0 0,.int .i64 3] 67)).alloc (.cells #[.int .i64 15,.string ⟨#[]⟩,.int .i64 0,.string ⟨#[107]⟩,.string ⟨#[118]⟩,.slice (some ⟨wb.heap.size,0,none⟩) 2 2,.slice none 0 0,.slice none 0 0,.int .i64 0] 67))=w3 at HE1 X3 HB3 ⊢
 generalize some (⟨wb.heap.size,0,none⟩:Addr)=A1 at HE1 X3
 have zr:=Tryz.zeroValue24
 obtain⟨k0,k1,k2,k3,k4,k5,k6,k7,k8⟩:=zZ6 X3.out
 have hz0:wb.heap.size+1 < w3.heap.size:=X3.out.lt
 apply zY1 (by kernel_rfl) [(fun v _=>v=.agg #[.int .i64 3,.string ⟨#[]⟩,.int .i64 10000,.string ⟨#[]⟩,.string ⟨#[]⟩,.slice none 0 0,.slice none 0 0,.slice none 0 0,.int .i64 0]),(fun v W=>∃ Aa,v=.agg #[.int .i64 4,.int .i64 0,.string ⟨#[108]⟩,.string ⟨#[]⟩,.string ⟨#[]⟩,.slice Aa 1 1,.slice none 0 0,.slice none 0 0,.slice none 0 0,.string ⟨#[]⟩,.int .i64 0]∧SlT 9 encE 67 Aa [numE 10000] W),(fun v _=>v=.agg #[.int .i64 10,.string ⟨#[108]⟩,.int .i64 0,.string ⟨#[]⟩,.string ⟨#[]⟩,.slice none 0 0,.slice none 0 0,.slice none 0 0,.int .i64 1]),(fun v W=>∃ Ab,v=.agg #[.int .i64 1,.int .i64 1,.string ⟨#[97]⟩,.string ⟨#[]⟩,.string ⟨#[]⟩,.slice Ab 1 1,.slice none 0 0,.slice none 0 0,.slice none 0 0,.string ⟨#[]⟩,.int .i64 0]∧SlT 9 encE 67 Ab [nmE [108] 1] W),isv _,(fun v _=>v=.agg #[.int .i64 10,.string ⟨#[120]⟩,.int .i64 0,.string ⟨#[]⟩,.string ⟨#[]⟩,.slice none 0 0,.slice none 0 0,.slice none 0 0,.int .i64 4]),(fun v W=>∃ A2,v=.slice A2 2 2∧SlT 9 encE 67 A2 [zK4 A1,nmE [120] 4] W),(fun v W=>∃ A2,v=.agg #[.int .i64 14,.string ⟨#[]⟩,.int .i64 0,.string ⟨#[]⟩,.string ⟨#[]⟩,.slice A2 2 2,.slice none 0 0,.slice none 0 0,.int .i64 0]∧SlT 9 encE 67 A2 [zK4 A1,nmE [120] 4] W),(fun v W=>∃ Ac A2,v=.agg #[.int .i64 1,.int .i64 1,.string ⟨#[98]⟩,.string ⟨#[]⟩,.string ⟨#[]⟩,.slice Ac 1 1,.slice none 0 0,.slice none 0 0,.slice none 0 0,.string ⟨#[]⟩,.int .i64 0]∧SlT 9 encE 67 Ac [zH3 A2 A1] W∧SlT 9 encE 67 A2 [zK4 A1,nmE [120] 4] W),(fun v W=>∃ A Aa Ab Ac A2,v=.slice A 3 3∧Ex1d A A1 Aa Ab Ac A2 W),(fun v W=>∃ A' A Aa Ab Ac A2,v=.agg #[.string ⟨#[]⟩,.slice A' 1 1]∧SlT 4 encF 58 A' [⟨[],none,0,[],A,3,ex1 Aa Ab Ac A2 A1,none,0,[]⟩] W∧Ex1d A A1 Aa Ab Ac A2 W),(fun v W=>∃ g:Nat,v=.pointer (some ⟨g,0,none⟩)∧w3.heap.size≤g∧Blk W g 24 #[.string ByteArray.empty,.slice none 0 0])] w3.heap.size w3 (Nat.le_refl _) (Below.refl _ _).drew (by kernel_rfl) (by kernel_rfl) (by kernel_rfl) (by kernel_rfl) (by kernel_rfl) (And.intro (fun _ _ _ h _=>h) (And.intro (fun _ _ _ ⟨A,e,h⟩ hb=>⟨A,e,h.below hb⟩) (And.intro (fun _ _ _ h _=>h) (And.intro (fun _ _ _ ⟨A,e,h⟩ hb=>⟨A,e,h.below hb⟩) (And.intro (zZ1 _) (And.intro (fun _ _ _ h _=>h) (And.intro (fun _ _ _ ⟨A,e,h⟩ hb=>⟨A,e,h.below hb⟩) (And.intro (fun _ _ _ ⟨A,e,h⟩ hb=>⟨A,e,h.below hb⟩) (And.intro (fun _ _ _ ⟨A,B,e,h,h2⟩ hb=>⟨A,B,e,h.below hb,h2.below hb⟩) (And.intro (fun _ _ _ ⟨A,B,C,D,E,e,h⟩ hb=>⟨A,B,C,D,E,e,h.below hb⟩) (And.intro (fun _ _ _ ⟨F,A,B,C,D,E,e,h,h2⟩ hb=>⟨F,A,B,C,D,E,e,h.below hb,h2.below hb⟩) (And.intro (fun _ _ _ ⟨g,e,h1,h2⟩ hb=>⟨g,e,h1,h2.keep hb⟩) trivial)))))))))))) ?steps (by rfl) _ rfl rfl ?fin
 case steps=>
  refine(And.intro ?o0 (And.intro ?o1 (And.intro ?o2 (And.intro ?o3 (And.intro ?o4 (And.intro ?o5 (And.intro ?o6 (And.intro ?o7 (And.intro ?o8 (And.intro ?o9 (And.intro ?o10 (And.intro ?o11 trivial))))))))))))
  case o0=>
   intro AA W KK QQ hB hs hd hl hk
   clear hs hd hl
   go_simp
   refine(yC8 1 (by decide) W).mono ?_
   rintro e W2 ⟨rfl,hb2⟩
   exact hk _ _ rfl hb2
  case o1=>
   intro AA W KK QQ hB hs hd hl hk
   obtain⟨_,sl20,rfl⟩:=hd 0 20 (by kernel_rfl) rfl
   clear hs hd hl
   go_simp
   refine(yC9 [108] (numE 10000) W (by decide) zP7).mono ?_
   rintro e W2 ⟨Aa,rfl,hAa,hb2⟩
   exact hk _ _ ⟨Aa,rfl,hAa⟩ hb2
  case o2=>
   intro AA W KK QQ hB hs hd hl hk
   clear hs hd hl
   go_simp
   refine(zK5 [108] 1 W).mono ?_
   rintro e W2 ⟨rfl,hb2⟩
   exact hk _ _ rfl hb2
  case o3=>
   intro AA W KK QQ hB hs hd hl hk
   obtain⟨_,sl22,rfl⟩:=hd 2 22 (by kernel_rfl) rfl
   clear hs hd hl
   go_simp
   refine(yZ1 [97] (nmE [108] 1) W (by decide) (zQ8 (by decide))).mono ?_
   rintro e W2 ⟨Ab,rfl,hAb,hb2⟩
   exact hk _ _ ⟨Ab,rfl,hAb⟩ hb2
  case o4=>
   intro AA W KK QQ hB hs hd hl hk
   have sl1:=hs 1 _ (by kernel_rfl) rfl
   clear hs hd hl
   have hx0:=hB.cell (p:=⟨wb.heap.size+1,0,none⟩) hz0
   rw[k0] at hx0
   have hx1:=hB.cell (p:=⟨wb.heap.size+1,1,none⟩) hz0
   rw[k1] at hx1
   have hx2:=hB.cell (p:=⟨wb.heap.size+1,2,none⟩) hz0
   rw[k2] at hx2
   have hx3:=hB.cell (p:=⟨wb.heap.size+1,3,none⟩) hz0
   rw[k3] at hx3
   have hx4:=hB.cell (p:=⟨wb.heap.size+1,4,none⟩) hz0
   rw[k4] at hx4
   have hx5:=hB.cell (p:=⟨wb.heap.size+1,5,none⟩) hz0
   rw[k5] at hx5
   have hx6:=hB.cell (p:=⟨wb.heap.size+1,6,none⟩) hz0
   rw[k6] at hx6
   have hx7:=hB.cell (p:=⟨wb.heap.size+1,7,none⟩) hz0
   rw[k7] at hx7
   have hx8:=hB.cell (p:=⟨wb.heap.size+1,8,none⟩) hz0
   rw[k8] at hx8
   go_simp
   exact hk _ _ rfl (Below.refl _ _)
  case o5=>
   intro AA W KK QQ hB hs hd hl hk
   clear hs hd hl
   go_simp
   refine(zK5 [120] 4 W).mono ?_
   rintro e W2 ⟨rfl,hb2⟩
   exact hk _ _ rfl hb2
  case o6=>
   intro AA W KK QQ hB hs hd hl hk
   obtain⟨_,sl24,rfl⟩:=hd 4 24 (by kernel_rfl) rfl
   obtain⟨_,sl25,rfl⟩:=hd 5 25 (by kernel_rfl) rfl
   clear hs hd hl
   go_simp
   exact hk _ _ ⟨_,rfl,zJ3 W zP0 rfl (by simp)⟩ ((Below.refl _ _).alloc (Nat.le_refl _) _)
  case o7=>
   intro AA W KK QQ hB hs hd hl hk
   obtain⟨_,sl26,⟨A2,rfl,hA2⟩⟩:=hd 6 26 (by kernel_rfl) rfl
   clear hs hd hl
   go_simp
   exact hk _ _ ⟨A2,rfl,hA2⟩ (Below.refl _ _)
  case o8=>
   intro AA W KK QQ hB hs hd hl hk
   obtain⟨_,sl27,⟨A2,rfl,hA2⟩⟩:=hd 7 27 (by kernel_rfl) rfl
   clear hs hd hl
   go_simp
   refine(yZ1 [98] (zH3 A2 A1) W (by decide) (yG9 hA2.1 (yG8 (HE1.out.below hB).1))).mono ?_
   rintro e W2 ⟨Ac,rfl,hAc,hb2⟩
   exact hk _ _ ⟨Ac,A2,rfl,hAc,hA2.below hb2⟩ hb2
  case o9=>
   intro AA W KK QQ hB hs hd hl hk
   obtain⟨_,sl21,⟨Aa,rfl,hAa⟩⟩:=hd 1 21 (by kernel_rfl) rfl
   obtain⟨_,sl23,⟨Ab,rfl,hAb⟩⟩:=hd 3 23 (by kernel_rfl) rfl
   obtain⟨_,sl28,⟨Ac,A2,rfl,hAc,hA2⟩⟩:=hd 8 28 (by kernel_rfl) rfl
   clear hs hd hl
   have hba:=(Below.refl W.heap.size W).alloc (Nat.le_refl _) (.cells #[.int .i64 4,.int .i64 0,.string ⟨#[108]⟩,.string ⟨#[]⟩,.string ⟨#[]⟩,.slice Aa 1 1,.slice none 0 0,.slice none 0 0,.slice none 0 0,.string ⟨#[]⟩,.int .i64 0,.int .i64 1,.int .i64 1,.string ⟨#[97]⟩,.string ⟨#[]⟩,.string ⟨#[]⟩,.slice Ab 1 1,.slice none 0 0,.slice none 0 0,.slice none 0 0,.string ⟨#[]⟩,.int .i64 0,.int .i64 1,.int .i64 1,.string ⟨#[98]⟩,.string ⟨#[]⟩,.string ⟨#[]⟩,.slice Ac 1 1,.slice none 0 0,.slice none 0 0,.slice none 0 0,.string ⟨#[]⟩,.int .i64 0] 71)
   go_simp
   exact hk _ _ ⟨_,Aa,Ab,Ac,A2,rfl,zJ3 W zU9 rfl (by simp[ex1]),hAa.below hba,hAb.below hba,hAc.below hba,hA2.below hba,(HE1.out.below hB).below hba⟩ ((Below.refl _ _).alloc (Nat.le_refl _) _)
  case o10=>
   intro AA W KK QQ hB hs hd hl hk
   obtain⟨_,sl29,⟨A,Aa,Ab,Ac,A2,rfl,hD⟩⟩:=hd 9 29 (by kernel_rfl) rfl
   clear hs hd hl
   go_simp
   refine(xU2 A 3 (ex1 Aa Ab Ac A2 A1) W hD.d.1 hD.ok).mono ?_
   rintro e W2 ⟨A',rfl,hF,hb2⟩
   exact hk _ _ ⟨A',A,Aa,Ab,Ac,A2,rfl,hF,hD.below hb2⟩ hb2
  case o11=>
   intro AA W KK QQ hB hs hd hl hk
   clear hs hd hl
   go_simp
   exact hk _ _ ⟨_,rfl,hB.size,Blk.new _ _ _⟩ ((Below.refl _ _).alloc (Nat.le_refl _) _)
 case fin=>
  intro wf hB GG hGG
  refine zZ9 20 rfl ?_
  rintro _ rfl
  refine zZ9 21 rfl ?_
  rintro _ ⟨_,rfl,_⟩
  refine zZ9 22 rfl ?_
  rintro _ rfl
  refine zZ9 23 rfl ?_
  rintro _ ⟨_,rfl,_⟩
  refine zZ0 24 rfl ?_
  refine zZ9 25 rfl ?_
  rintro _ rfl
  refine zZ9 26 rfl ?_
  rintro _ ⟨_,rfl,_⟩
  refine zZ9 27 rfl ?_
  rintro _ ⟨_,rfl,_⟩
  refine zZ9 28 rfl ?_
  rintro _ ⟨_,_,rfl,_⟩
  refine zZ9 29 rfl ?_
  rintro _ ⟨_,_,_,_,_,rfl,_⟩
  refine zZ9 30 rfl ?_
  rintro _ ⟨A',A,Aa,Ab,Ac,A2,rfl,hF,hD⟩
  refine zZ9 2 rfl ?_
  rintro _ ⟨g,rfl,hg,hG⟩
  refine zJ4 _ _ _ _ _ _ _ _ _ _ _ _ _ _ _ _ _ _ _ _ _ _ _ _ _ _ _ _ _ _ _ _ _ _ _ _ _ _ _ _ _ _ _ _ _ _ _ _ _ _ _ _ _ _ _ _ _ _ _ _ _ _ _ _ _ _ _ _ _ _ _ _ _ _ _ _ _ _ _ _ _ _ _ _ _ _ _ _ _ _ _ _ _ _ _ _ _ _ _ _ _ _ _ _ _ _ _ _ _ _ _ _ _ _ _ _ _ _ _ _ _ _ _ _ _ _ _ _ _ _ _ _ _ _ _ _ _ _ _ _ _ _ _ _ _ _ _ _ _ _ _ _ _ _ _ _ _ _ _ _ _ _ _ _ _ _ _ _ _ _ _ _ _ _ _ _ _ hGG ?_
  clear hGG k0 k1 k2 k3 k4 k5 k6 k7 k8 zr
  have g0:=hG.cell 0
  have g1:=hG.cell 1
  have f0:=hG.free 0
  have f1:=hG.free 1
  obtain⟨hB5,hK5⟩:=res2 hG (.string ⟨#[]⟩) (.slice A' 1 1)
  have HP1:=Lib.hid (show _∧_ from⟨hF.write hG (by decide) hK5,hD.write hG hK5⟩)
  have HB5:=Lib.hid (show Below w.heap.size w _ from(HB3.out.trans (hB.mono HB3.out.size)).trans (hK5.toBelow (Nat.le_trans HB3.out.size hB.size) fun b hb e=>by have:=HB3.out.size;omega))
  have HX5:=Lib.hid hB5
  clear hB5 hK5 hF hD hG hB
  go_simp
  generalize (wf.setCell ⟨g,0,none⟩ (.string ⟨#[]⟩)).setCell ⟨g,1,none⟩ (.slice A' 1 1)=w5 at HP1 HB5 HX5 ⊢
  clear g0 g1 f0 f1 hz0 hg HE1 X3 HB3 HB0
  have HX:=HX5
  have HOk:=Lib.hid (xU3 HP1.out.1.1 HP1.out.2.d.1 HP1.out.2.ok)
  clear HP1 HX5
  have b0:=(zU4 HX.out).1
  have b1:=(zU4 HX.out).2
  go_wp2_with fail
  refine(xU4 w5 HOk.out rfl uses1 nd1 pat1 (HG.out.keep HB5.out)).mono ?_
  rintro e w6 ⟨Al,cl,rfl,hSl,hb6⟩
  have HL:=Lib.hid hSl
  clear hSl b0 b1
  replace HX:=Lib.hid (HX.out.keep hb6)
  replace HOk:=Lib.hid (yG7 hb6 HOk.out)
  have HB6:=Lib.hid (HB5.out.trans (hb6.mono HB5.out.size))
  clear hb6
  have b0:=(zU4 HX.out).1
  have b1:=(zU4 HX.out).2
  go_wp2_with fail
  refine(undef_pk w6 HOk.out rfl undef1 nd1 pat1 (HG.out.keep HB6.out)).mono ?_
  rintro e w7 ⟨An,cn,rfl,hSn,hb7⟩
  have HN:=Lib.hid hSn
  clear hSn b0 b1
  replace HX:=Lib.hid (HX.out.keep hb7)
  replace HOk:=Lib.hid (yG7 hb7 HOk.out)
  replace HL:=Lib.hid (zX2 hb7 HL.out)
  have HB7:=Lib.hid (HB6.out.trans (hb7.mono HB6.out.size))
  clear hb7
  have b0:=(zU4 HX.out).1
  have b1:=(zU4 HX.out).2
  go_wp2_with fail
  refine(xU5 w7 HOk.out (HG.out.keep HB7.out)).mono ?_
  rintro e w8 ⟨Au,cu,rfl,hb8⟩
  clear b0 b1
  replace HX:=Lib.hid (HX.out.keep hb8)
  replace HOk:=Lib.hid (yG7 hb8 HOk.out)
  replace HL:=Lib.hid (zX2 hb8 HL.out)
  replace HN:=Lib.hid (zX2 hb8 HN.out)
  have HB8:=Lib.hid (HB7.out.trans (hb8.mono HB7.out.size))
  clear hb8
  have b0:=(zU4 HX.out).1
  have b1:=(zU4 HX.out).2
  go_wp2_with fail
  refine(decl_pk w8 HOk.out rfl decl1 nd1 pat1 (HG.out.keep HB8.out)).mono ?_
  rintro e w9 ⟨At,ct,rfl,hSt,hb9⟩
  have HT:=Lib.hid hSt
  clear hSt b0 b1
  replace HX:=Lib.hid (HX.out.keep hb9)
  replace HOk:=Lib.hid (yG7 hb9 HOk.out)
  replace HL:=Lib.hid (zX2 hb9 HL.out)
  replace HN:=Lib.hid (zX2 hb9 HN.out)
  have HB9:=Lib.hid (HB8.out.trans (hb9.mono HB8.out.size))
  clear hb9
  clear HX HOk
  go_wp2_with fail
  refine(zK5 [98] 0 w9).mono ?_
  rintro e w10 ⟨rfl,hb⟩
  replace HL:=Lib.hid (zX2 hb HL.out)
  replace HN:=Lib.hid (zX2 hb HN.out)
  replace HT:=Lib.hid (zX2 hb HT.out)
  have HB10:=Lib.hid (HB9.out.trans (hb.mono HB9.out.size))
  clear hb
  go_wp2_with fail
  refine(yC9 [97] (nmE [98] 0) w10 (by decide) (zQ8 (by decide))).mono ?_
  rintro e w11 ⟨Aa2,rfl,hS,hb⟩
  have HA:=Lib.hid hS
  clear hS
  replace HL:=Lib.hid (zX2 hb HL.out)
  replace HN:=Lib.hid (zX2 hb HN.out)
  replace HT:=Lib.hid (zX2 hb HT.out)
  have HB11:=Lib.hid (HB10.out.trans (hb.mono HB10.out.size))
  clear hb
  go_wp2_with fail
  refine(zK5 [97] 0 w11).mono ?_
  rintro e w12 ⟨rfl,hb⟩
  replace HL:=Lib.hid (zX2 hb HL.out)
  replace HN:=Lib.hid (zX2 hb HN.out)
  replace HT:=Lib.hid (zX2 hb HT.out)
  replace HA:=Lib.hid (HA.out.below hb)
  have HB12:=Lib.hid (HB11.out.trans (hb.mono HB11.out.size))
  clear hb
  go_wp2_with fail
  refine(yC9 [98] (nmE [97] 0) w12 (by decide) (zQ8 (by decide))).mono ?_
  rintro e w13 ⟨Ab2,rfl,hS,hb⟩
  have HC:=Lib.hid hS
  clear hS
  replace HL:=Lib.hid (zX2 hb HL.out)
  replace HN:=Lib.hid (zX2 hb HN.out)
  replace HT:=Lib.hid (zX2 hb HT.out)
  replace HA:=Lib.hid (HA.out.below hb)
  have HB13:=Lib.hid (HB12.out.trans (hb.mono HB12.out.size))
  clear hb
  have hb:=(Below.refl w13.heap.size w13).alloc (Nat.le_refl _) (.cells #[.int .i64 4,.int .i64 0,.string ⟨#[97]⟩,.string ⟨#[]⟩,.string ⟨#[]⟩,.slice Aa2 1 1,.slice none 0 0,.slice none 0 0,.slice none 0 0,.string ⟨#[]⟩,.int .i64 0,.int .i64 4,.int .i64 0,.string ⟨#[98]⟩,.string ⟨#[]⟩,.string ⟨#[]⟩,.slice Ab2 1 1,.slice none 0 0,.slice none 0 0,.slice none 0 0,.string ⟨#[]⟩,.int .i64 0] 71)
  have HD:=Lib.hid (zJ3 (ty:=71) (cs:=#[.int .i64 4,.int .i64 0,.string ⟨#[97]⟩,.string ⟨#[]⟩,.string ⟨#[]⟩,.slice Aa2 1 1,.slice none 0 0,.slice none 0 0,.slice none 0 0,.string ⟨#[]⟩,.int .i64 0,.int .i64 4,.int .i64 0,.string ⟨#[98]⟩,.string ⟨#[]⟩,.string ⟨#[]⟩,.slice Ab2 1 1,.slice none 0 0,.slice none 0 0,.slice none 0 0,.string ⟨#[]⟩,.int .i64 0]) (l:=ex2 Aa2 Ab2) w13 zU9 rfl (by simp[ex2]))
  replace HL:=Lib.hid (zX2 hb HL.out)
  replace HN:=Lib.hid (zX2 hb HN.out)
  replace HT:=Lib.hid (zX2 hb HT.out)
  replace HA:=Lib.hid (HA.out.below hb)
  replace HC:=Lib.hid (HC.out.below hb)
  have HB14:=Lib.hid (HB13.out.trans (hb.mono HB13.out.size))
  clear hb
  have HO:=Lib.hid (show OkAds (w13.alloc (.cells #[.int .i64 4,.int .i64 0,.string ⟨#[97]⟩,.string ⟨#[]⟩,.string ⟨#[]⟩,.slice Aa2 1 1,.slice none 0 0,.slice none 0 0,.slice none 0 0,.string ⟨#[]⟩,.int .i64 0,.int .i64 4,.int .i64 0,.string ⟨#[98]⟩,.string ⟨#[]⟩,.string ⟨#[]⟩,.slice Ab2 1 1,.slice none 0 0,.slice none 0 0,.slice none 0 0,.string ⟨#[]⟩,.int .i64 0] 71)) (w13.alloc (.cells #[.int .i64 4,.int .i64 0,.string ⟨#[97]⟩,.string ⟨#[]⟩,.string ⟨#[]⟩,.slice Aa2 1 1,.slice none 0 0,.slice none 0 0,.slice none 0 0,.string ⟨#[]⟩,.int .i64 0,.int .i64 4,.int .i64 0,.string ⟨#[98]⟩,.string ⟨#[]⟩,.string ⟨#[]⟩,.slice Ab2 1 1,.slice none 0 0,.slice none 0 0,.slice none 0 0,.string ⟨#[]⟩,.int .i64 0] 71)).heap.size (ex2 Aa2 Ab2) from⟨zE8 (by decide) HA.out.1 (zQ8 (by decide)),zE8 (by decide) HC.out.1 (zQ8 (by decide)),trivial⟩)
  go_wp2_with fail
  refine(xU2 (some ⟨w13.heap.size,0,none⟩) 2 (ex2 Aa2 Ab2) (w13.alloc (.cells #[.int .i64 4,.int .i64 0,.string ⟨#[97]⟩,.string ⟨#[]⟩,.string ⟨#[]⟩,.slice Aa2 1 1,.slice none 0 0,.slice none 0 0,.slice none 0 0,.string ⟨#[]⟩,.int .i64 0,.int .i64 4,.int .i64 0,.string ⟨#[98]⟩,.string ⟨#[]⟩,.string ⟨#[]⟩,.slice Ab2 1 1,.slice none 0 0,.slice none 0 0,.slice none 0 0,.string ⟨#[]⟩,.int .i64 0] 71)) HD.out.1 HO.out).mono ?_
  rintro e w15 ⟨Af,rfl,hS,hb⟩
  have HOk:=Lib.hid (xU3 hS.1 (HD.out.below hb).1 (zE7 hb HO.out))
  clear hS HO HD HA HC
  replace HL:=Lib.hid (zX2 hb HL.out)
  replace HN:=Lib.hid (zX2 hb HN.out)
  replace HT:=Lib.hid (zX2 hb HT.out)
  have HB15:=Lib.hid (HB14.out.trans (hb.mono HB14.out.size))
  clear hb
  go_wp2_with fail
  refine(yB0 w15 HOk.out (HG.out.keep HB15.out)).mono ?_
  rintro e w16 ⟨rfl,hb⟩
  clear HOk
  replace HL:=Lib.hid (zX2 hb HL.out)
  replace HN:=Lib.hid (zX2 hb HN.out)
  replace HT:=Lib.hid (zX2 hb HT.out)
  have HB16:=Lib.hid (HB15.out.trans (hb.mono HB15.out.size))
  clear hb
  have hb:=(Below.refl w16.heap.size w16).alloc (Nat.le_refl _) (.cells #[.string ⟨#[]⟩,.slice none 0 0] 24)
  replace HL:=Lib.hid (zX2 hb HL.out)
  replace HN:=Lib.hid (zX2 hb HN.out)
  replace HT:=Lib.hid (zX2 hb HT.out)
  have HB17:=Lib.hid (HB16.out.trans (hb.mono HB16.out.size))
  clear hb
  go_upto_region 8 with fail
  generalize w16.alloc (.cells #[.string ⟨#[]⟩,.slice none 0 0] 24)=w17 at HL HN HT HB17 ⊢
  go_wp2_with fail
  refine(yC8 1 (by decide) w17).mono ?_
  rintro e w18 ⟨rfl,hb⟩
  replace HL:=Lib.hid (zX2 hb HL.out)
  replace HN:=Lib.hid (zX2 hb HN.out)
  replace HT:=Lib.hid (zX2 hb HT.out)
  have HB18:=Lib.hid (HB17.out.trans (hb.mono HB17.out.size))
  clear hb
  go_wp2_with fail
  refine(yZ1 [97] (numE 10000) w18 (by decide) zP7).mono ?_
  rintro e w19 ⟨Ga,rfl,hS,hb⟩
  have HA:=Lib.hid hS
  clear hS
  replace HL:=Lib.hid (zX2 hb HL.out)
  replace HN:=Lib.hid (zX2 hb HN.out)
  replace HT:=Lib.hid (zX2 hb HT.out)
  have HB19:=Lib.hid (HB18.out.trans (hb.mono HB18.out.size))
  clear hb
  go_wp2_with fail
  refine(yC8 2 (by decide) w19).mono ?_
  rintro e w20 ⟨rfl,hb⟩
  replace HL:=Lib.hid (zX2 hb HL.out)
  replace HN:=Lib.hid (zX2 hb HN.out)
  replace HT:=Lib.hid (zX2 hb HT.out)
  replace HA:=Lib.hid (HA.out.below hb)
  have HB20:=Lib.hid (HB19.out.trans (hb.mono HB19.out.size))
  clear hb
  go_wp2_with fail
  refine(yZ1 [97] (numE 20000) w20 (by decide) zP7).mono ?_
  rintro e w21 ⟨Gc,rfl,hS,hb⟩
  have HC:=Lib.hid hS
  clear hS
  replace HL:=Lib.hid (zX2 hb HL.out)
  replace HN:=Lib.hid (zX2 hb HN.out)
  replace HT:=Lib.hid (zX2 hb HT.out)
  replace HA:=Lib.hid (HA.out.below hb)
  have HB21:=Lib.hid (HB20.out.trans (hb.mono HB20.out.size))
  clear hb
  go_wp2_with fail
  refine(zK5 [97] 7 w21).mono ?_
  rintro e w22 ⟨rfl,hb⟩
  replace HL:=Lib.hid (zX2 hb HL.out)
  replace HN:=Lib.hid (zX2 hb HN.out)
  replace HT:=Lib.hid (zX2 hb HT.out)
  replace HA:=Lib.hid (HA.out.below hb)
  replace HC:=Lib.hid (HC.out.below hb)
  have HB22:=Lib.hid (HB21.out.trans (hb.mono HB21.out.size))
  clear hb
  go_wp2_with fail
  refine(yZ1 [99] (nmE [97] 7) w22 (by decide) (zQ8 (by decide))).mono ?_
  rintro e w23 ⟨Gd,rfl,hS,hb⟩
  have HE:=Lib.hid hS
  clear hS
  replace HL:=Lib.hid (zX2 hb HL.out)
  replace HN:=Lib.hid (zX2 hb HN.out)
  replace HT:=Lib.hid (zX2 hb HT.out)
  replace HA:=Lib.hid (HA.out.below hb)
  replace HC:=Lib.hid (HC.out.below hb)
  have HB23:=Lib.hid (HB22.out.trans (hb.mono HB22.out.size))
  clear hb
  have hb:=(Below.refl w23.heap.size w23).alloc (Nat.le_refl _) (.cells #[.int .i64 1,.int .i64 1,.string ⟨#[97]⟩,.string ⟨#[]⟩,.string ⟨#[]⟩,.slice Gc 1 1,.slice none 0 0,.slice none 0 0,.slice none 0 0,.string ⟨#[]⟩,.int .i64 0,.int .i64 1,.int .i64 1,.string ⟨#[99]⟩,.string ⟨#[]⟩,.string ⟨#[]⟩,.slice Gd 1 1,.slice none 0 0,.slice none 0 0,.slice none 0 0,.string ⟨#[]⟩,.int .i64 0] 71)
  have HD:=Lib.hid (zJ3 (ty:=71) (cs:=#[.int .i64 1,.int .i64 1,.string ⟨#[97]⟩,.string ⟨#[]⟩,.string ⟨#[]⟩,.slice Gc 1 1,.slice none 0 0,.slice none 0 0,.slice none 0 0,.string ⟨#[]⟩,.int .i64 0,.int .i64 1,.int .i64 1,.string ⟨#[99]⟩,.string ⟨#[]⟩,.string ⟨#[]⟩,.slice Gd 1 1,.slice none 0 0,.slice none 0 0,.slice none 0 0,.string ⟨#[]⟩,.int .i64 0]) (l:=[fldD [97] Gc (numE 20000),fldD [99] Gd (nmE [97] 7)]) w23 zU9 rfl (by simp))
  replace HL:=Lib.hid (zX2 hb HL.out)
  replace HN:=Lib.hid (zX2 hb HN.out)
  replace HT:=Lib.hid (zX2 hb HT.out)
  replace HA:=Lib.hid (HA.out.below hb)
  replace HC:=Lib.hid (HC.out.below hb)
  replace HE:=Lib.hid (HE.out.below hb)
  have HB24:=Lib.hid (HB23.out.trans (hb.mono HB23.out.size))
  clear hb
  have HO:=Lib.hid (⟨zT0 (by decide) HC.out.1 zP7,zT0 (by decide) HE.out.1 (zQ8 (by decide)),trivial⟩:OkAds (w23.alloc (.cells #[.int .i64 1,.int .i64 1,.string ⟨#[97]⟩,.string ⟨#[]⟩,.string ⟨#[]⟩,.slice Gc 1 1,.slice none 0 0,.slice none 0 0,.slice none 0 0,.string ⟨#[]⟩,.int .i64 0,.int .i64 1,.int .i64 1,.string ⟨#[99]⟩,.string ⟨#[]⟩,.string ⟨#[]⟩,.slice Gd 1 1,.slice none 0 0,.slice none 0 0,.slice none 0 0,.string ⟨#[]⟩,.int .i64 0] 71)) (w23.alloc (.cells #[.int .i64 1,.int .i64 1,.string ⟨#[97]⟩,.string ⟨#[]⟩,.string ⟨#[]⟩,.slice Gc 1 1,.slice none 0 0,.slice none 0 0,.slice none 0 0,.string ⟨#[]⟩,.int .i64 0,.int .i64 1,.int .i64 1,.string ⟨#[99]⟩,.string ⟨#[]⟩,.string ⟨#[]⟩,.slice Gd 1 1,.slice none 0 0,.slice none 0 0,.slice none 0 0,.string ⟨#[]⟩,.int .i64 0] 71)).heap.size [fldD [97] Gc (numE 20000),fldD [99] Gd (nmE [97] 7)])
  go_wp2_with fail
  refine(yZ1 [98] (zH4 (some ⟨w23.heap.size,0,none⟩) 2 [fldD [97] Gc (numE 20000),fldD [99] Gd (nmE [97] 7)]) (w23.alloc (.cells #[.int .i64 1,.int .i64 1,.string ⟨#[97]⟩,.string ⟨#[]⟩,.string ⟨#[]⟩,.slice Gc 1 1,.slice none 0 0,.slice none 0 0,.slice none 0 0,.string ⟨#[]⟩,.int .i64 0,.int .i64 1,.int .i64 1,.string ⟨#[99]⟩,.string ⟨#[]⟩,.string ⟨#[]⟩,.slice Gd 1 1,.slice none 0 0,.slice none 0 0,.slice none 0 0,.string ⟨#[]⟩,.int .i64 0] 71)) (by decide) (zF2 HD.out.1 HO.out)).mono ?_
  rintro e w25 ⟨Gb,rfl,hS,hb⟩
  have HF:=Lib.hid hS
  clear hS HO
  replace HL:=Lib.hid (zX2 hb HL.out)
  replace HN:=Lib.hid (zX2 hb HN.out)
  replace HT:=Lib.hid (zX2 hb HT.out)
  replace HA:=Lib.hid (HA.out.below hb)
  replace HC:=Lib.hid (HC.out.below hb)
  replace HE:=Lib.hid (HE.out.below hb)
  replace HD:=Lib.hid (HD.out.below hb)
  have HB25:=Lib.hid (HB24.out.trans (hb.mono HB24.out.size))
  clear hb
  have hb:=(Below.refl w25.heap.size w25).alloc (Nat.le_refl _) (.cells #[.int .i64 1,.int .i64 1,.string ⟨#[97]⟩,.string ⟨#[]⟩,.string ⟨#[]⟩,.slice Ga 1 1,.slice none 0 0,.slice none 0 0,.slice none 0 0,.string ⟨#[]⟩,.int .i64 0,.int .i64 1,.int .i64 1,.string ⟨#[98]⟩,.string ⟨#[]⟩,.string ⟨#[]⟩,.slice Gb 1 1,.slice none 0 0,.slice none 0 0,.slice none 0 0,.string ⟨#[]⟩,.int .i64 0] 71)
  have HM:=Lib.hid (zJ3 (ty:=71) (cs:=#[.int .i64 1,.int .i64 1,.string ⟨#[97]⟩,.string ⟨#[]⟩,.string ⟨#[]⟩,.slice Ga 1 1,.slice none 0 0,.slice none 0 0,.slice none 0 0,.string ⟨#[]⟩,.int .i64 0,.int .i64 1,.int .i64 1,.string ⟨#[98]⟩,.string ⟨#[]⟩,.string ⟨#[]⟩,.slice Gb 1 1,.slice none 0 0,.slice none 0 0,.slice none 0 0,.string ⟨#[]⟩,.int .i64 0]) (l:=(ex3 Ga Gb (some ⟨w23.heap.size,0,none⟩) Gc Gd)) w25 zU9 rfl (by simp[ex3]))
  replace HL:=Lib.hid (zX2 hb HL.out)
  replace HN:=Lib.hid (zX2 hb HN.out)
  replace HT:=Lib.hid (zX2 hb HT.out)
  replace HA:=Lib.hid (HA.out.below hb)
  replace HC:=Lib.hid (HC.out.below hb)
  replace HE:=Lib.hid (HE.out.below hb)
  replace HD:=Lib.hid (HD.out.below hb)
  replace HF:=Lib.hid (HF.out.below hb)
  have HB26:=Lib.hid (HB25.out.trans (hb.mono HB25.out.size))
  clear hb
  have HO:=Lib.hid (show OkAds (w25.alloc (.cells #[.int .i64 1,.int .i64 1,.string ⟨#[97]⟩,.string ⟨#[]⟩,.string ⟨#[]⟩,.slice Ga 1 1,.slice none 0 0,.slice none 0 0,.slice none 0 0,.string ⟨#[]⟩,.int .i64 0,.int .i64 1,.int .i64 1,.string ⟨#[98]⟩,.string ⟨#[]⟩,.string ⟨#[]⟩,.slice Gb 1 1,.slice none 0 0,.slice none 0 0,.slice none 0 0,.string ⟨#[]⟩,.int .i64 0] 71)) (w25.alloc (.cells #[.int .i64 1,.int .i64 1,.string ⟨#[97]⟩,.string ⟨#[]⟩,.string ⟨#[]⟩,.slice Ga 1 1,.slice none 0 0,.slice none 0 0,.slice none 0 0,.string ⟨#[]⟩,.int .i64 0,.int .i64 1,.int .i64 1,.string ⟨#[98]⟩,.string ⟨#[]⟩,.string ⟨#[]⟩,.slice Gb 1 1,.slice none 0 0,.slice none 0 0,.slice none 0 0,.string ⟨#[]⟩,.int .i64 0] 71)).heap.size (ex3 Ga Gb (some ⟨w23.heap.size,0,none⟩) Gc Gd) from⟨zT0 (by decide) HA.out.1 zP7,zT0 (by decide) HF.out.1 (zF2 HD.out.1 (⟨zT0 (by decide) HC.out.1 zP7,zT0 (by decide) HE.out.1 (zQ8 (by decide)),trivial⟩:OkAds (w25.alloc (.cells #[.int .i64 1,.int .i64 1,.string ⟨#[97]⟩,.string ⟨#[]⟩,.string ⟨#[]⟩,.slice Ga 1 1,.slice none 0 0,.slice none 0 0,.slice none 0 0,.string ⟨#[]⟩,.int .i64 0,.int .i64 1,.int .i64 1,.string ⟨#[98]⟩,.string ⟨#[]⟩,.string ⟨#[]⟩,.slice Gb 1 1,.slice none 0 0,.slice none 0 0,.slice none 0 0,.string ⟨#[]⟩,.int .i64 0] 71)) (w25.alloc (.cells #[.int .i64 1,.int .i64 1,.string ⟨#[97]⟩,.string ⟨#[]⟩,.string ⟨#[]⟩,.slice Ga 1 1,.slice none 0 0,.slice none 0 0,.slice none 0 0,.string ⟨#[]⟩,.int .i64 0,.int .i64 1,.int .i64 1,.string ⟨#[98]⟩,.string ⟨#[]⟩,.string ⟨#[]⟩,.slice Gb 1 1,.slice none 0 0,.slice none 0 0,.slice none 0 0,.string ⟨#[]⟩,.int .i64 0] 71)).heap.size [fldD [97] Gc (numE 20000),fldD [99] Gd (nmE [97] 7)])),trivial⟩)
  go_wp2_with fail
  refine(xU2 (some ⟨w25.heap.size,0,none⟩) 2 (ex3 Ga Gb (some ⟨w23.heap.size,0,none⟩) Gc Gd) (w25.alloc (.cells #[.int .i64 1,.int .i64 1,.string ⟨#[97]⟩,.string ⟨#[]⟩,.string ⟨#[]⟩,.slice Ga 1 1,.slice none 0 0,.slice none 0 0,.slice none 0 0,.string ⟨#[]⟩,.int .i64 0,.int .i64 1,.int .i64 1,.string ⟨#[98]⟩,.string ⟨#[]⟩,.string ⟨#[]⟩,.slice Gb 1 1,.slice none 0 0,.slice none 0 0,.slice none 0 0,.string ⟨#[]⟩,.int .i64 0] 71)) HM.out.1 HO.out).mono ?_
  rintro e w27 ⟨Ah,rfl,hS,hb⟩
  have HOk:=Lib.hid (xU3 hS.1 (HM.out.below hb).1 (zE7 hb HO.out))
  clear hS HO HM HA HC HE HD HF
  replace HL:=Lib.hid (zX2 hb HL.out)
  replace HN:=Lib.hid (zX2 hb HN.out)
  replace HT:=Lib.hid (zX2 hb HT.out)
  have HB27:=Lib.hid (HB26.out.trans (hb.mono HB26.out.size))
  clear hb
  go_wp2_with fail
  refine(xU4 w27 HOk.out rfl uses3 nd3 pat3 (HG.out.keep HB27.out)).mono ?_
  rintro e w28 ⟨Aq,cq,rfl,hSq,hb⟩
  have HQ:=Lib.hid hSq
  clear hSq HOk
  replace HL:=Lib.hid (zX2 hb HL.out)
  replace HN:=Lib.hid (zX2 hb HN.out)
  replace HT:=Lib.hid (zX2 hb HT.out)
  have HB28:=Lib.hid (HB27.out.trans (hb.mono HB27.out.size))
  clear hb
  clear HB5 HB6 HB7 HB8 HB9 HB10 HB11 HB12 HB13 HB14 HB15 HB16 HB17 HB18 HB19 HB20 HB21 HB22 HB23 HB24 HB25 HB26 HB27
  go_upto_region 11 with fail
  have HZ28:=HB28
  rcases HL.out with hnil | ⟨bl,ol,rfl,hzL,hcL⟩
  ·cases hnil
  have kL0:w28.cell? ⟨bl,ol,none⟩=some (.int .i64 0):=hcL 0 (by decide) 0 _ rfl
  have kL1:w28.cell? ⟨bl,ol+1,none⟩=some (.int .i64 1):=hcL 0 (by decide) 1 _ rfl
  have kL2:w28.cell? ⟨bl,ol+2,none⟩=some (.string ⟨#[108]⟩):=hcL 0 (by decide) 2 _ rfl
  have kL3:w28.cell? ⟨bl,ol+3,none⟩=some (.int .i64 2):=hcL 0 (by decide) 3 _ rfl
  have kL4:w28.cell? ⟨bl,ol+4,none⟩=some (.int .i64 0):=hcL 0 (by decide) 4 _ rfl
  have kL5:w28.cell? ⟨bl,ol+5,none⟩=some (.int .i64 0):=hcL 1 (by decide) 0 _ rfl
  have kL6:w28.cell? ⟨bl,ol+6,none⟩=some (.int .i64 2):=hcL 1 (by decide) 1 _ rfl
  have kL7:w28.cell? ⟨bl,ol+7,none⟩=some (.string ⟨#[97]⟩):=hcL 1 (by decide) 2 _ rfl
  have kL8:w28.cell? ⟨bl,ol+8,none⟩=some (.int .i64 1):=hcL 1 (by decide) 3 _ rfl
  have kL9:w28.cell? ⟨bl,ol+9,none⟩=some (.int .i64 0):=hcL 1 (by decide) 4 _ rfl
  have kL10:w28.cell? ⟨bl,ol+10,none⟩=some (.int .i64 0):=hcL 2 (by decide) 0 _ rfl
  have kL11:w28.cell? ⟨bl,ol+11,none⟩=some (.int .i64 3):=hcL 2 (by decide) 1 _ rfl
  have kL12:w28.cell? ⟨bl,ol+12,none⟩=some (.string ⟨#[107]⟩):=hcL 2 (by decide) 2 _ rfl
  have kL13:w28.cell? ⟨bl,ol+13,none⟩=some (.int .i64 3):=hcL 2 (by decide) 3 _ rfl
  have kL14:w28.cell? ⟨bl,ol+14,none⟩=some (.int .i64 0):=hcL 2 (by decide) 4 _ rfl
  have kL15:w28.cell? ⟨bl,ol+15,none⟩=some (.int .i64 0):=hcL 3 (by decide) 0 _ rfl
  have kL16:w28.cell? ⟨bl,ol+16,none⟩=some (.int .i64 4):=hcL 3 (by decide) 1 _ rfl
  have kL17:w28.cell? ⟨bl,ol+17,none⟩=some (.string ⟨#[120]⟩):=hcL 3 (by decide) 2 _ rfl
  have kL18:w28.cell? ⟨bl,ol+18,none⟩=some (.int .i64 0):=hcL 3 (by decide) 3 _ rfl
  have kL19:w28.cell? ⟨bl,ol+19,none⟩=some (.int .i64 0):=hcL 3 (by decide) 4 _ rfl
  clear hcL
  rcases HN.out with hnil | ⟨bn,on,rfl,hzN,hcN⟩
  ·cases hnil
  have kN0:w28.cell? ⟨bn,on,none⟩=some (.int .i64 0):=hcN 0 (by decide) 0 _ rfl
  have kN1:w28.cell? ⟨bn,on+1,none⟩=some (.int .i64 4):=hcN 0 (by decide) 1 _ rfl
  have kN2:w28.cell? ⟨bn,on+2,none⟩=some (.string ⟨#[120]⟩):=hcN 0 (by decide) 2 _ rfl
  have kN3:w28.cell? ⟨bn,on+3,none⟩=some (.int .i64 0):=hcN 0 (by decide) 3 _ rfl
  have kN4:w28.cell? ⟨bn,on+4,none⟩=some (.int .i64 0):=hcN 0 (by decide) 4 _ rfl
  clear hcN
  rcases HQ.out with hnil | ⟨bq,oq,rfl,hzQ,hcQ⟩
  ·cases hnil
  have kQ0:w28.cell? ⟨bq,oq,none⟩=some (.int .i64 0):=hcQ 0 (by decide) 0 _ rfl
  have kQ1:w28.cell? ⟨bq,oq+1,none⟩=some (.int .i64 7):=hcQ 0 (by decide) 1 _ rfl
  have kQ2:w28.cell? ⟨bq,oq+2,none⟩=some (.string ⟨#[97]⟩):=hcQ 0 (by decide) 2 _ rfl
  have kQ3:w28.cell? ⟨bq,oq+3,none⟩=some (.int .i64 1):=hcQ 0 (by decide) 3 _ rfl
  have kQ4:w28.cell? ⟨bq,oq+4,none⟩=some (.int .i64 1):=hcQ 0 (by decide) 4 _ rfl
  clear hcQ
  clear HL HN HQ
  apply zY0 (by kernel_rfl) [isv _,(fun v W=>∃ A3,v=.slice A3 3 3∧SlT 1 encS 9 A3 [[97],[98],[108]] W),(fun v _=>v=.bool true),isv _,isv _,isv _,isv _,isv _,isv _,isv _,isv _,isv _,isv _,isv _,isv _,isv _,isv _,isv _,isv _,isv _,isv _,isv _,isv _,isv _,isv _,isv _,isv _,isv _,isv _,isv _,isv _,isv _,isv _,isv _,isv _,isv _,isv _,isv _,isv _,isv _,isv _,isv _,isv _,isv _,isv _,isv _,isv _,isv _] w28.heap.size w28 (Nat.le_refl _) (Below.refl _ _).drew (by kernel_rfl) (by kernel_rfl) (by kernel_rfl) (And.intro (zZ1 _) (And.intro (fun _ _ _ ⟨A,e,h⟩ hb=>⟨A,e,h.below hb⟩) (And.intro (fun _ _ _ h _=>h) (And.intro (zZ1 _) (And.intro (zZ1 _) (And.intro (zZ1 _) (And.intro (zZ1 _) (And.intro (zZ1 _) (And.intro (zZ1 _) (And.intro (zZ1 _) (And.intro (zZ1 _) (And.intro (zZ1 _) (And.intro (zZ1 _) (And.intro (zZ1 _) (And.intro (zZ1 _) (And.intro (zZ1 _) (And.intro (zZ1 _) (And.intro (zZ1 _) (And.intro (zZ1 _) (And.intro (zZ1 _) (And.intro (zZ1 _) (And.intro (zZ1 _) (And.intro (zZ1 _) (And.intro (zZ1 _) (And.intro (zZ1 _) (And.intro (zZ1 _) (And.intro (zZ1 _) (And.intro (zZ1 _) (And.intro (zZ1 _) (And.intro (zZ1 _) (And.intro (zZ1 _) (And.intro (zZ1 _) (And.intro (zZ1 _) (And.intro (zZ1 _) (And.intro (zZ1 _) (And.intro (zZ1 _) (And.intro (zZ1 _) (And.intro (zZ1 _) (And.intro (zZ1 _) (And.intro (zZ1 _) (And.intro (zZ1 _) (And.intro (zZ1 _) (And.intro (zZ1 _) (And.intro (zZ1 _) (And.intro (zZ1 _) (And.intro (zZ1 _) (And.intro (zZ1 _) (And.intro (zZ1 _) trivial)))))))))))))))))))))))))))))))))))))))))))))))) ?steps (by rfl) ?fin
  case steps=>
   refine(And.intro ?o0 (And.intro ?o1 (And.intro ?o2 (And.intro ?o3 (And.intro ?o4 (And.intro ?o5 (And.intro ?o6 (And.intro ?o7 (And.intro ?o8 (And.intro ?o9 (And.intro ?o10 (And.intro ?o11 (And.intro ?o12 (And.intro ?o13 (And.intro ?o14 (And.intro ?o15 (And.intro ?o16 (And.intro ?o17 (And.intro ?o18 (And.intro ?o19 (And.intro ?o20 (And.intro ?o21 (And.intro ?o22 (And.intro ?o23 (And.intro ?o24 (And.intro ?o25 (And.intro ?o26 (And.intro ?o27 (And.intro ?o28 (And.intro ?o29 (And.intro ?o30 (And.intro ?o31 (And.intro ?o32 (And.intro ?o33 (And.intro ?o34 (And.intro ?o35 (And.intro ?o36 (And.intro ?o37 (And.intro ?o38 (And.intro ?o39 (And.intro ?o40 (And.intro ?o41 (And.intro ?o42 (And.intro ?o43 (And.intro ?o44 (And.intro ?o45 (And.intro ?o46 (And.intro ?o47 trivial))))))))))))))))))))))))))))))))))))))))))))))))
   case o0=>
    intro AA W KK QQ hB hs hd hl hk
    have sl9:=hs 9 _ (by kernel_rfl) rfl
    clear hs hd hl
    go_simp
    exact hk _ _ rfl (Below.refl _ _)
   case o1=>
    intro AA W KK QQ hB hs hd hl hk
    clear hs hd hl
    go_simp
    exact hk _ _ ⟨_,rfl,zJ3 W (fun _=>rfl) rfl (by simp)⟩ ((Below.refl _ _).alloc (Nat.le_refl _) _)
   case o2=>
    intro AA W KK QQ hB hs hd hl hk
    obtain⟨_,sl118,rfl⟩:=hd 0 118 (by kernel_rfl) rfl
    obtain⟨_,sl119,⟨A3,rfl,hA3⟩⟩:=hd 1 119 (by kernel_rfl) rfl
    clear hs hd hl
    go_simp
    refine(yG5 At A3 ct 3 [[97],[98],[108]] [[97],[98],[108]] W (sl_up2 hB HT.out) hA3.1.1 (by simp) (by simp)).mono ?_
    rintro e W2 ⟨rfl,hb2⟩
    exact hk _ _ (by simp) hb2
   case o3=>
    intro AA W KK QQ hB hs hd hl hk
    obtain⟨_,sl120,rfl⟩:=hd 2 120 (by kernel_rfl) rfl
    clear hs hd hl
    go_simp
    exact hk _ _ rfl (Below.refl _ _)
   case o4=>
    intro AA W KK QQ hB hs hd hl hk
    have sl3:=hs 3 _ (by kernel_rfl) rfl
    obtain⟨_,sl121,rfl⟩:=hd 3 121 (by kernel_rfl) rfl
    clear hs hd hl
    refine⟨_,_,rfl,sl121,?_⟩
    first
     | (change Oper.wp _ _ _ _ _ _;go_simp;exact hk _ _ rfl (Below.refl _ _))
     | exact rfl
   case o5=>
    intro AA W KK QQ hB hs hd hl hk
    obtain⟨_,sl121,rfl⟩:=hd 3 121 (by kernel_rfl) rfl
    obtain⟨_,sl122,rfl⟩:=hd 4 122 (by kernel_rfl) rfl
    clear hs hd hl
    refine⟨_,_,rfl,sl121,?_⟩
    first
     | (change Oper.wp _ _ _ _ _ _;go_simp;exact hk _ _ rfl (Below.refl _ _))
     | exact rfl
   case o6=>
    intro AA W KK QQ hB hs hd hl hk
    obtain⟨_,sl121,rfl⟩:=hd 3 121 (by kernel_rfl) rfl
    obtain⟨_,sl123,rfl⟩:=hd 5 123 (by kernel_rfl) rfl
    clear hs hd hl
    have hx0:=hB.cell (p:=⟨bl,ol,none⟩) hzL
    rw[kL0] at hx0
    have hx1:=hB.cell (p:=⟨bl,ol+1,none⟩) hzL
    rw[kL1] at hx1
    have hx2:=hB.cell (p:=⟨bl,ol+2,none⟩) hzL
    rw[kL2] at hx2
    have hx3:=hB.cell (p:=⟨bl,ol+3,none⟩) hzL
    rw[kL3] at hx3
    have hx4:=hB.cell (p:=⟨bl,ol+4,none⟩) hzL
    rw[kL4] at hx4
    refine⟨_,_,rfl,sl121,?_⟩
    first
     | (change Oper.wp _ _ _ _ _ _;go_simp;exact hk _ _ rfl (Below.refl _ _))
     | exact rfl
   case o7=>
    intro AA W KK QQ hB hs hd hl hk
    obtain⟨_,sl121,rfl⟩:=hd 3 121 (by kernel_rfl) rfl
    clear hs hd hl
    refine⟨_,_,rfl,sl121,?_⟩
    first
     | (change Oper.wp _ _ _ _ _ _;go_simp;exact hk _ _ rfl (Below.refl _ _))
     | exact rfl
   case o8=>
    intro AA W KK QQ hB hs hd hl hk
    obtain⟨_,sl121,rfl⟩:=hd 3 121 (by kernel_rfl) rfl
    obtain⟨_,sl124,rfl⟩:=hd 6 124 (by kernel_rfl) rfl
    obtain⟨_,sl125,rfl⟩:=hd 7 125 (by kernel_rfl) rfl
    clear hs hd hl
    refine⟨_,_,rfl,sl121,?_⟩
    first
     | (change Oper.wp _ _ _ _ _ _;go_simp;exact hk _ _ rfl (Below.refl _ _))
     | exact rfl
   case o9=>
    intro AA W KK QQ hB hs hd hl hk
    obtain⟨_,sl121,rfl⟩:=hd 3 121 (by kernel_rfl) rfl
    obtain⟨_,sl126,rfl⟩:=hd 8 126 (by kernel_rfl) rfl
    clear hs hd hl
    go_simp
    exact hk _ _ rfl (Below.refl _ _)
   case o10=>
    intro AA W KK QQ hB hs hd hl hk
    obtain⟨_,sl127,rfl⟩:=hd 9 127 (by kernel_rfl) rfl
    clear hs hd hl
    go_simp
    exact hk _ _ rfl (Below.refl _ _)
   case o11=>
    intro AA W KK QQ hB hs hd hl hk
    have sl3:=hs 3 _ (by kernel_rfl) rfl
    obtain⟨_,sl128,rfl⟩:=hd 10 128 (by kernel_rfl) rfl
    clear hs hd hl
    refine⟨_,_,rfl,sl128,?_⟩
    first
     | (change Oper.wp _ _ _ _ _ _;go_simp;exact hk _ _ rfl (Below.refl _ _))
     | exact rfl
   case o12=>
    intro AA W KK QQ hB hs hd hl hk
    obtain⟨_,sl128,rfl⟩:=hd 10 128 (by kernel_rfl) rfl
    obtain⟨_,sl129,rfl⟩:=hd 11 129 (by kernel_rfl) rfl
    clear hs hd hl
    refine⟨_,_,rfl,sl128,?_⟩
    first
     | (change Oper.wp _ _ _ _ _ _;go_simp;exact hk _ _ rfl (Below.refl _ _))
     | exact rfl
   case o13=>
    intro AA W KK QQ hB hs hd hl hk
    obtain⟨_,sl128,rfl⟩:=hd 10 128 (by kernel_rfl) rfl
    obtain⟨_,sl130,rfl⟩:=hd 12 130 (by kernel_rfl) rfl
    clear hs hd hl
    have hx0:=hB.cell (p:=⟨bl,ol+5,none⟩) hzL
    rw[kL5] at hx0
    have hx1:=hB.cell (p:=⟨bl,ol+6,none⟩) hzL
    rw[kL6] at hx1
    have hx2:=hB.cell (p:=⟨bl,ol+7,none⟩) hzL
    rw[kL7] at hx2
    have hx3:=hB.cell (p:=⟨bl,ol+8,none⟩) hzL
    rw[kL8] at hx3
    have hx4:=hB.cell (p:=⟨bl,ol+9,none⟩) hzL
    rw[kL9] at hx4
    refine⟨_,_,rfl,sl128,?_⟩
    first
     | (change Oper.wp _ _ _ _ _ _;go_simp;exact hk _ _ rfl (Below.refl _ _))
     | exact rfl
   case o14=>
    intro AA W KK QQ hB hs hd hl hk
    obtain⟨_,sl128,rfl⟩:=hd 10 128 (by kernel_rfl) rfl
    clear hs hd hl
    refine⟨_,_,rfl,sl128,?_⟩
    first
     | (change Oper.wp _ _ _ _ _ _;go_simp;exact hk _ _ rfl (Below.refl _ _))
     | exact rfl
   case o15=>
    intro AA W KK QQ hB hs hd hl hk
    obtain⟨_,sl128,rfl⟩:=hd 10 128 (by kernel_rfl) rfl
    obtain⟨_,sl131,rfl⟩:=hd 13 131 (by kernel_rfl) rfl
    obtain⟨_,sl132,rfl⟩:=hd 14 132 (by kernel_rfl) rfl
    clear hs hd hl
    refine⟨_,_,rfl,sl128,?_⟩
    first
     | (change Oper.wp _ _ _ _ _ _;go_simp;exact hk _ _ rfl (Below.refl _ _))
     | exact rfl
   case o16=>
    intro AA W KK QQ hB hs hd hl hk
    obtain⟨_,sl128,rfl⟩:=hd 10 128 (by kernel_rfl) rfl
    obtain⟨_,sl133,rfl⟩:=hd 15 133 (by kernel_rfl) rfl
    clear hs hd hl
    go_simp
    exact hk _ _ rfl (Below.refl _ _)
   case o17=>
    intro AA W KK QQ hB hs hd hl hk
    obtain⟨_,sl134,rfl⟩:=hd 16 134 (by kernel_rfl) rfl
    clear hs hd hl
    go_simp
    exact hk _ _ rfl (Below.refl _ _)
   case o18=>
    intro AA W KK QQ hB hs hd hl hk
    have sl3:=hs 3 _ (by kernel_rfl) rfl
    obtain⟨_,sl135,rfl⟩:=hd 17 135 (by kernel_rfl) rfl
    clear hs hd hl
    refine⟨_,_,rfl,sl135,?_⟩
    first
     | (change Oper.wp _ _ _ _ _ _;go_simp;exact hk _ _ rfl (Below.refl _ _))
     | exact rfl
   case o19=>
    intro AA W KK QQ hB hs hd hl hk
    obtain⟨_,sl135,rfl⟩:=hd 17 135 (by kernel_rfl) rfl
    obtain⟨_,sl136,rfl⟩:=hd 18 136 (by kernel_rfl) rfl
    clear hs hd hl
    refine⟨_,_,rfl,sl135,?_⟩
    first
     | (change Oper.wp _ _ _ _ _ _;go_simp;exact hk _ _ rfl (Below.refl _ _))
     | exact rfl
   case o20=>
    intro AA W KK QQ hB hs hd hl hk
    obtain⟨_,sl135,rfl⟩:=hd 17 135 (by kernel_rfl) rfl
    obtain⟨_,sl137,rfl⟩:=hd 19 137 (by kernel_rfl) rfl
    clear hs hd hl
    have hx0:=hB.cell (p:=⟨bl,ol+10,none⟩) hzL
    rw[kL10] at hx0
    have hx1:=hB.cell (p:=⟨bl,ol+11,none⟩) hzL
    rw[kL11] at hx1
    have hx2:=hB.cell (p:=⟨bl,ol+12,none⟩) hzL
    rw[kL12] at hx2
    have hx3:=hB.cell (p:=⟨bl,ol+13,none⟩) hzL
    rw[kL13] at hx3
    have hx4:=hB.cell (p:=⟨bl,ol+14,none⟩) hzL
    rw[kL14] at hx4
    refine⟨_,_,rfl,sl135,?_⟩
    first
     | (change Oper.wp _ _ _ _ _ _;go_simp;exact hk _ _ rfl (Below.refl _ _))
     | exact rfl
   case o21=>
    intro AA W KK QQ hB hs hd hl hk
    obtain⟨_,sl135,rfl⟩:=hd 17 135 (by kernel_rfl) rfl
    clear hs hd hl
    refine⟨_,_,rfl,sl135,?_⟩
    first
     | (change Oper.wp _ _ _ _ _ _;go_simp;exact hk _ _ rfl (Below.refl _ _))
     | exact rfl
   case o22=>
    intro AA W KK QQ hB hs hd hl hk
    obtain⟨_,sl135,rfl⟩:=hd 17 135 (by kernel_rfl) rfl
    obtain⟨_,sl138,rfl⟩:=hd 20 138 (by kernel_rfl) rfl
    obtain⟨_,sl139,rfl⟩:=hd 21 139 (by kernel_rfl) rfl
    clear hs hd hl
    refine⟨_,_,rfl,sl135,?_⟩
    first
     | (change Oper.wp _ _ _ _ _ _;go_simp;exact hk _ _ rfl (Below.refl _ _))
     | exact rfl
   case o23=>
    intro AA W KK QQ hB hs hd hl hk
    obtain⟨_,sl135,rfl⟩:=hd 17 135 (by kernel_rfl) rfl
    obtain⟨_,sl140,rfl⟩:=hd 22 140 (by kernel_rfl) rfl
    clear hs hd hl
    go_simp
    exact hk _ _ rfl (Below.refl _ _)
   case o24=>
    intro AA W KK QQ hB hs hd hl hk
    obtain⟨_,sl141,rfl⟩:=hd 23 141 (by kernel_rfl) rfl
    clear hs hd hl
    go_simp
    exact hk _ _ rfl (Below.refl _ _)
   case o25=>
    intro AA W KK QQ hB hs hd hl hk
    have sl3:=hs 3 _ (by kernel_rfl) rfl
    obtain⟨_,sl142,rfl⟩:=hd 24 142 (by kernel_rfl) rfl
    clear hs hd hl
    refine⟨_,_,rfl,sl142,?_⟩
    first
     | (change Oper.wp _ _ _ _ _ _;go_simp;exact hk _ _ rfl (Below.refl _ _))
     | exact rfl
   case o26=>
    intro AA W KK QQ hB hs hd hl hk
    obtain⟨_,sl142,rfl⟩:=hd 24 142 (by kernel_rfl) rfl
    obtain⟨_,sl143,rfl⟩:=hd 25 143 (by kernel_rfl) rfl
    clear hs hd hl
    refine⟨_,_,rfl,sl142,?_⟩
    first
     | (change Oper.wp _ _ _ _ _ _;go_simp;exact hk _ _ rfl (Below.refl _ _))
     | exact rfl
   case o27=>
    intro AA W KK QQ hB hs hd hl hk
    obtain⟨_,sl142,rfl⟩:=hd 24 142 (by kernel_rfl) rfl
    obtain⟨_,sl144,rfl⟩:=hd 26 144 (by kernel_rfl) rfl
    clear hs hd hl
    have hx0:=hB.cell (p:=⟨bl,ol+15,none⟩) hzL
    rw[kL15] at hx0
    have hx1:=hB.cell (p:=⟨bl,ol+16,none⟩) hzL
    rw[kL16] at hx1
    have hx2:=hB.cell (p:=⟨bl,ol+17,none⟩) hzL
    rw[kL17] at hx2
    have hx3:=hB.cell (p:=⟨bl,ol+18,none⟩) hzL
    rw[kL18] at hx3
    have hx4:=hB.cell (p:=⟨bl,ol+19,none⟩) hzL
    rw[kL19] at hx4
    refine⟨_,_,rfl,sl142,?_⟩
    first
     | (change Oper.wp _ _ _ _ _ _;go_simp;exact hk _ _ rfl (Below.refl _ _))
     | exact rfl
   case o28=>
    intro AA W KK QQ hB hs hd hl hk
    obtain⟨_,sl142,rfl⟩:=hd 24 142 (by kernel_rfl) rfl
    clear hs hd hl
    refine⟨_,_,rfl,sl142,?_⟩
    first
     | (change Oper.wp _ _ _ _ _ _;go_simp;exact hk _ _ rfl (Below.refl _ _))
     | exact rfl
   case o29=>
    intro AA W KK QQ hB hs hd hl hk
    obtain⟨_,sl142,rfl⟩:=hd 24 142 (by kernel_rfl) rfl
    obtain⟨_,sl145,rfl⟩:=hd 27 145 (by kernel_rfl) rfl
    obtain⟨_,sl146,rfl⟩:=hd 28 146 (by kernel_rfl) rfl
    clear hs hd hl
    refine⟨_,_,rfl,sl142,?_⟩
    first
     | (change Oper.wp _ _ _ _ _ _;go_simp;exact hk _ _ rfl (Below.refl _ _))
     | exact rfl
   case o30=>
    intro AA W KK QQ hB hs hd hl hk
    obtain⟨_,sl142,rfl⟩:=hd 24 142 (by kernel_rfl) rfl
    obtain⟨_,sl147,rfl⟩:=hd 29 147 (by kernel_rfl) rfl
    clear hs hd hl
    go_simp
    exact hk _ _ rfl (Below.refl _ _)
   case o31=>
    intro AA W KK QQ hB hs hd hl hk
    obtain⟨_,sl148,rfl⟩:=hd 30 148 (by kernel_rfl) rfl
    clear hs hd hl
    go_simp
    exact hk _ _ rfl (Below.refl _ _)
   case o32=>
    intro AA W KK QQ hB hs hd hl hk
    have sl5:=hs 5 _ (by kernel_rfl) rfl
    obtain⟨_,sl149,rfl⟩:=hd 31 149 (by kernel_rfl) rfl
    clear hs hd hl
    refine⟨_,_,rfl,sl149,?_⟩
    first
     | (change Oper.wp _ _ _ _ _ _;go_simp;exact hk _ _ rfl (Below.refl _ _))
     | exact rfl
   case o33=>
    intro AA W KK QQ hB hs hd hl hk
    obtain⟨_,sl149,rfl⟩:=hd 31 149 (by kernel_rfl) rfl
    obtain⟨_,sl150,rfl⟩:=hd 32 150 (by kernel_rfl) rfl
    clear hs hd hl
    refine⟨_,_,rfl,sl149,?_⟩
    first
     | (change Oper.wp _ _ _ _ _ _;go_simp;exact hk _ _ rfl (Below.refl _ _))
     | exact rfl
   case o34=>
    intro AA W KK QQ hB hs hd hl hk
    obtain⟨_,sl149,rfl⟩:=hd 31 149 (by kernel_rfl) rfl
    obtain⟨_,sl151,rfl⟩:=hd 33 151 (by kernel_rfl) rfl
    clear hs hd hl
    have hx0:=hB.cell (p:=⟨bn,on,none⟩) hzN
    rw[kN0] at hx0
    have hx1:=hB.cell (p:=⟨bn,on+1,none⟩) hzN
    rw[kN1] at hx1
    have hx2:=hB.cell (p:=⟨bn,on+2,none⟩) hzN
    rw[kN2] at hx2
    have hx3:=hB.cell (p:=⟨bn,on+3,none⟩) hzN
    rw[kN3] at hx3
    have hx4:=hB.cell (p:=⟨bn,on+4,none⟩) hzN
    rw[kN4] at hx4
    refine⟨_,_,rfl,sl149,?_⟩
    first
     | (change Oper.wp _ _ _ _ _ _;go_simp;exact hk _ _ rfl (Below.refl _ _))
     | exact rfl
   case o35=>
    intro AA W KK QQ hB hs hd hl hk
    have sl3:=hs 3 _ (by kernel_rfl) rfl
    obtain⟨_,sl149,rfl⟩:=hd 31 149 (by kernel_rfl) rfl
    clear hs hd hl
    refine⟨_,_,rfl,sl149,?_⟩
    first
     | (change Oper.wp _ _ _ _ _ _;go_simp;exact hk _ _ rfl (Below.refl _ _))
     | exact rfl
   case o36=>
    intro AA W KK QQ hB hs hd hl hk
    obtain⟨_,sl149,rfl⟩:=hd 31 149 (by kernel_rfl) rfl
    obtain⟨_,sl153,rfl⟩:=hd 35 153 (by kernel_rfl) rfl
    clear hs hd hl
    refine⟨_,_,rfl,sl149,?_⟩
    first
     | (change Oper.wp _ _ _ _ _ _;go_simp;exact hk _ _ rfl (Below.refl _ _))
     | exact rfl
   case o37=>
    intro AA W KK QQ hB hs hd hl hk
    obtain⟨_,sl149,rfl⟩:=hd 31 149 (by kernel_rfl) rfl
    obtain⟨_,sl154,rfl⟩:=hd 36 154 (by kernel_rfl) rfl
    clear hs hd hl
    have hx0:=hB.cell (p:=⟨bl,ol+15,none⟩) hzL
    rw[kL15] at hx0
    have hx1:=hB.cell (p:=⟨bl,ol+16,none⟩) hzL
    rw[kL16] at hx1
    have hx2:=hB.cell (p:=⟨bl,ol+17,none⟩) hzL
    rw[kL17] at hx2
    have hx3:=hB.cell (p:=⟨bl,ol+18,none⟩) hzL
    rw[kL18] at hx3
    have hx4:=hB.cell (p:=⟨bl,ol+19,none⟩) hzL
    rw[kL19] at hx4
    refine⟨_,_,rfl,sl149,?_⟩
    first
     | (change Oper.wp _ _ _ _ _ _;go_simp;exact hk _ _ rfl (Below.refl _ _))
     | exact rfl
   case o38=>
    intro AA W KK QQ hB hs hd hl hk
    obtain⟨_,sl149,rfl⟩:=hd 31 149 (by kernel_rfl) rfl
    obtain⟨_,sl152,rfl⟩:=hd 34 152 (by kernel_rfl) rfl
    obtain⟨_,sl155,rfl⟩:=hd 37 155 (by kernel_rfl) rfl
    clear hs hd hl
    refine⟨_,_,rfl,sl149,?_⟩
    first
     | (change Oper.wp _ _ _ _ _ _;go_simp;exact hk _ _ rfl (Below.refl _ _))
     | exact rfl
   case o39=>
    intro AA W KK QQ hB hs hd hl hk
    obtain⟨_,sl149,rfl⟩:=hd 31 149 (by kernel_rfl) rfl
    obtain⟨_,sl156,rfl⟩:=hd 38 156 (by kernel_rfl) rfl
    clear hs hd hl
    go_simp
    exact hk _ _ rfl (Below.refl _ _)
   case o40=>
    intro AA W KK QQ hB hs hd hl hk
    obtain⟨_,sl157,rfl⟩:=hd 39 157 (by kernel_rfl) rfl
    clear hs hd hl
    go_simp
    exact hk _ _ rfl (Below.refl _ _)
   case o41=>
    intro AA W KK QQ hB hs hd hl hk
    have sl13:=hs 13 _ (by kernel_rfl) rfl
    obtain⟨_,sl158,rfl⟩:=hd 40 158 (by kernel_rfl) rfl
    clear hs hd hl
    refine⟨_,_,rfl,sl158,?_⟩
    first
     | (change Oper.wp _ _ _ _ _ _;go_simp;exact hk _ _ rfl (Below.refl _ _))
     | exact rfl
   case o42=>
    intro AA W KK QQ hB hs hd hl hk
    obtain⟨_,sl158,rfl⟩:=hd 40 158 (by kernel_rfl) rfl
    obtain⟨_,sl159,rfl⟩:=hd 41 159 (by kernel_rfl) rfl
    clear hs hd hl
    refine⟨_,_,rfl,sl158,?_⟩
    first
     | (change Oper.wp _ _ _ _ _ _;go_simp;exact hk _ _ rfl (Below.refl _ _))
     | exact rfl
   case o43=>
    intro AA W KK QQ hB hs hd hl hk
    obtain⟨_,sl158,rfl⟩:=hd 40 158 (by kernel_rfl) rfl
    obtain⟨_,sl160,rfl⟩:=hd 42 160 (by kernel_rfl) rfl
    clear hs hd hl
    have hx0:=hB.cell (p:=⟨bq,oq,none⟩) hzQ
    rw[kQ0] at hx0
    have hx1:=hB.cell (p:=⟨bq,oq+1,none⟩) hzQ
    rw[kQ1] at hx1
    have hx2:=hB.cell (p:=⟨bq,oq+2,none⟩) hzQ
    rw[kQ2] at hx2
    have hx3:=hB.cell (p:=⟨bq,oq+3,none⟩) hzQ
    rw[kQ3] at hx3
    have hx4:=hB.cell (p:=⟨bq,oq+4,none⟩) hzQ
    rw[kQ4] at hx4
    refine⟨_,_,rfl,sl158,?_⟩
    first
     | (change Oper.wp _ _ _ _ _ _;go_simp;exact hk _ _ rfl (Below.refl _ _))
     | exact rfl
   case o44=>
    intro AA W KK QQ hB hs hd hl hk
    obtain⟨_,sl158,rfl⟩:=hd 40 158 (by kernel_rfl) rfl
    clear hs hd hl
    refine⟨_,_,rfl,sl158,?_⟩
    first
     | (change Oper.wp _ _ _ _ _ _;go_simp;exact hk _ _ rfl (Below.refl _ _))
     | exact rfl
   case o45=>
    intro AA W KK QQ hB hs hd hl hk
    obtain⟨_,sl158,rfl⟩:=hd 40 158 (by kernel_rfl) rfl
    obtain⟨_,sl161,rfl⟩:=hd 43 161 (by kernel_rfl) rfl
    obtain⟨_,sl162,rfl⟩:=hd 44 162 (by kernel_rfl) rfl
    clear hs hd hl
    refine⟨_,_,rfl,sl158,?_⟩
    first
     | (change Oper.wp _ _ _ _ _ _;go_simp;exact hk _ _ rfl (Below.refl _ _))
     | exact rfl
   case o46=>
    intro AA W KK QQ hB hs hd hl hk
    obtain⟨_,sl158,rfl⟩:=hd 40 158 (by kernel_rfl) rfl
    obtain⟨_,sl163,rfl⟩:=hd 45 163 (by kernel_rfl) rfl
    clear hs hd hl
    go_simp
    exact hk _ _ rfl (Below.refl _ _)
   case o47=>
    intro AA W KK QQ hB hs hd hl hk
    obtain⟨_,sl164,rfl⟩:=hd 46 164 (by kernel_rfl) rfl
    clear hs hd hl
    go_simp
    exact hk _ _ rfl (Below.refl _ _)
  case fin=>
   intro wz hB
   refine zZ0 118 rfl ?_
   refine zZ9 119 rfl ?_
   rintro _ ⟨_,rfl,_⟩
   refine zZ9 120 rfl ?_
   rintro _ rfl
   refine zZ0 121 rfl ?_
   refine zZ0 122 rfl ?_
   refine zZ0 123 rfl ?_
   refine zZ0 124 rfl ?_
   refine zZ0 125 rfl ?_
   refine zZ0 126 rfl ?_
   refine zZ0 127 rfl ?_
   refine zZ0 128 rfl ?_
   refine zZ0 129 rfl ?_
   refine zZ0 130 rfl ?_
   refine zZ0 131 rfl ?_
   refine zZ0 132 rfl ?_
   refine zZ0 133 rfl ?_
   refine zZ0 134 rfl ?_
   refine zZ0 135 rfl ?_
   refine zZ0 136 rfl ?_
   refine zZ0 137 rfl ?_
   refine zZ0 138 rfl ?_
   refine zZ0 139 rfl ?_
   refine zZ0 140 rfl ?_
   refine zZ0 141 rfl ?_
   refine zZ0 142 rfl ?_
   refine zZ0 143 rfl ?_
   refine zZ0 144 rfl ?_
   refine zZ0 145 rfl ?_
   refine zZ0 146 rfl ?_
   refine zZ0 147 rfl ?_
   refine zZ0 148 rfl ?_
   refine zZ0 149 rfl ?_
   refine zZ0 150 rfl ?_
   refine zZ0 151 rfl ?_
   refine zZ0 152 rfl ?_
   refine zZ0 153 rfl ?_
   refine zZ0 154 rfl ?_
   refine zZ0 155 rfl ?_
   refine zZ0 156 rfl ?_
   refine zZ0 157 rfl ?_
   refine zZ0 158 rfl ?_
   refine zZ0 159 rfl ?_
   refine zZ0 160 rfl ?_
   refine zZ0 161 rfl ?_
   refine zZ0 162 rfl ?_
   refine zZ0 163 rfl ?_
   refine zZ0 164 rfl ?_
   refine zZ0 0 rfl ?_
   refine zJ5 _ _ _ _ _ _ _ _ _ _ _ _ _ _ _ _ _ _ _ _ _ _ _ _ _ _ _ _ _ _ _ _ _ _ _ _ _ _ _ _ _ _ _ _ _ _ _ _ _ _ _ _ _ _ _ _ _ _ _ _ _ _ _ _ _ _ _ _ _ _ _ _ _ _ _ _ _ _ _ _ _ _ _ _ _ _ _ _ _ _ _ _ _ _ _ _ _ _ _ _ _ _ _ _ _ _ _ _ _ _ _ _ _ _ _ _ _ _ _ _ _ _ _ _ _ _ _ _ _ _ _ _ _ _ _ _ _ _ _ _ _ _ _ _ _ _ _ _ _ _ _ _ _ _ _ _ _ _ _ _ _ _ _ _ _ _ _ _ _ _ _ _ _ _ _ _ _ _ _ _ _ _ _ _ _ _ _ _ _ _ _ _ _ _ _ _ _ _ _ _ _ _ _ _ _ _ _ _ _ _ _ _ _ ?_
   have HZ:=Lib.hid (HB28.out.trans (hB.mono HB28.out.size))
   clear hB
   go_wp2
   refine bodyPost_ret (v:=.bool true) (by simp[results,Tryz.results13,go_sem]) rfl ⟨rfl,HZ.out⟩
end Go.Proofs.YtdgehhgjgifikaaGreatDoor
