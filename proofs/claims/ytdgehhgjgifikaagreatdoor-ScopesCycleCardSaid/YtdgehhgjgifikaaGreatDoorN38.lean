/- What the claim needs of:ZZ. -/
import Derived.Test.YtdgehhgjgifikaaGreatDoorN37
import Derived.Laws.EntriesVeiled
import Derived.Test.YtdgehhgjgifikaaGreatDoorN5
namespace Go.Proofs.YtdgehhgjgifikaaGreatDoor
open Go.RowKit Go.Sort Go.Shelf
theorem elFile:ElT Tryz.prog 22 58 4 88:=ElT.mk_ (z:=.agg #[.string ByteArray.empty,.slice none 0 0,.slice none 0 0,.slice none 0 0]) Tryz.underlying22 (by kernel_rfl) (by kernel_rfl) (by decide)
theorem loadRes {rx:Tx→Bool}{p:PA}{B s:Nat}{w1 w2:World}{e:Ending}(h:zN0 B rx p s w1 e w2) :
  Below w1.heap.size w1 w2∧((∃ ee:Int,ee≠0∧ResK rx (plP p) [] ee∧e=.returned (.tuple #[.pointer none,.int .i64 ee]))∨
   (errP rx (plP p)=0∧(∀ f∈p.files,errF rx (plF f)=0)∧∃ R σ0 σ env rs0 Im,Root p R σ0 env∧zO2 R U0 env 0 p.files σ0 σ rs0∧e=.returned (.tuple #[.pointer (some ⟨R.r,0,none⟩),.int .i64 0])∧LoadOk B w1 p s R σ0 σ env Im w2)):=by
 obtain⟨hb,h⟩:=h
 refine⟨hb,?_⟩
 rcases h with ⟨h0,rfl⟩ | ⟨h0,hok,R,σ0,σ,env,rs,hRt,hV,h⟩
 ·have hE:=zI7 h0
  exact .inl ⟨zV0 rx p,h0,.inl ⟨by rw[hE];exact h0,rfl,hE.symm⟩,rfl⟩
 ·have ht:=zP2 hRt hV
  have hE:=zN4 h0
  rw[←ht] at hE
  rcases h with ⟨h6,rfl⟩ | ⟨h6,rfl,Im,hO⟩
  ·rw[h6,if_pos rfl] at hE
   exact .inl ⟨6,by decide,.inl ⟨by rw[hE];decide,rfl,hE.symm⟩,rfl⟩
  ·rw[h6,if_neg (by decide)] at hE
   exact .inr ⟨hE,hok,R,σ0,σ,env,rs,Im,hRt,hV,rfl,hO⟩
structure BnR {X:Type}(w0 w1:World)(p:PA)(s:Nat)(R:RF)(C:Clo X)(env:List ScA)(bo:Nat)(v:Value)(fas:List FA)(gs:List (Nat × TypeId × Array Value))(σ:GS X)(Im:Nat→Prop)(wx:World):Prop where
 b:BtwR w0 w1 p s R C env σ Im wx
 f:FsR R C w1 bo v fas σ Im wx
 g:∀ q∈gs,Blk wx q.1 q.2.1 q.2.2∧MineR R C σ Im w1 wx q.1∧v.ownBlock≠some q.1
section
variable {X:Type}{w0 w1 wx wy:World}{p:PA}{s s' bo:Nat}{R:RF}{C:Clo X}{env:List ScA}{v:Value}{fas:List FA}{gs:List (Nat × TypeId × Array Value)}{σ σ':GS X}{Im Im':Nat→Prop}
theorem BnR.below (h:BnR w0 w1 p s R C env bo v fas gs σ Im wx)(hb:Below wx.heap.size wx wy):BnR w0 w1 p s R C env bo v fas gs σ Im wy:=
 ⟨h.b.below hb,h.f.below hb,fun q hq=>⟨(h.g q hq).1.keep hb,(h.g q hq).2.1.up hb.size,(h.g q hq).2.2⟩⟩
theorem BnR.alloc (h:BnR w0 w1 p s R C env bo v fas gs σ Im wx)(ty:TypeId)(cs:Array Value):BnR w0 w1 p s R C env bo v fas ((wx.heap.size,ty,cs) ::gs) σ Im (wx.alloc (.cells cs ty)):=by
 have hba:=(Below.refl wx.heap.size wx).alloc (Nat.le_refl _) (.cells cs ty)
 have h2:=h.below hba
 refine⟨h2.b,h2.f,fun q hq=>?_⟩
 rcases List.mem_cons.1 hq with rfl | hq
 ·exact⟨Blk.new wx ty cs,h.b.new_ (Nat.le_refl _) (by simp),fun e=>by have:=(h.f.ma _ e).1.1.1;omega⟩
 ·exact h2.g q hq
theorem BnR.fresh {α:Type}{k:Nat}{enc:α→List Value}{A:Option Addr}{xs:List α}(h:BnR w0 w1 p s R C env bo v fas gs σ Im wx)(hS:SlN wy wy.heap.size k enc A xs)(hl:xs.length≤1048576)(hb:Below wx.heap.size wx wy)(hn:∀ a,xs≠[]→A=some a→wx.heap.size≤a.block) :
  BnR w0 w1 p s R C env bo v fas gs σ (fun q=>Im q∨(xs≠[]∧∃ ad,A=some ad∧ad.block=q)) wy∧SlI (fun q=>Im q∨(xs≠[]∧∃ ad,A=some ad∧ad.block=q)) wy k enc A xs:=by
 have hF:=yS5 h.b.st.zo hS.1 hn
 have h2:=h.below hb
 refine⟨⟨h2.b.freeze fun q hq=>⟨(hF q hq).1,Nat.le_trans h.b.lo.size (hF q hq).2⟩,h2.f.freeze fun b hb hq=>by have h3:=(hF b hq).2;have h4:=(h.f.ma b hb).1.1.1;omega,fun q hq=>⟨(h2.g q hq).1,(h2.g q hq).2.1.freeze fun hq2=>by have h3:=(hF q.1 hq2).2;have h4:=(h.g q hq).2.1.1.1;omega,(h2.g q hq).2.2⟩⟩,fresh_sl hS.1 hl⟩
theorem BnR.write {N:Nat→Prop}(h:BnR w0 w1 p s R C env bo v fas gs σ Im wx)(hk:Kp N wx wy)(hN:∀ b,N b→MineR R C σ Im w1 wx b∧v.ownBlock≠some b)(hg:∀ q∈gs,¬ N q.1):BnR w0 w1 p s R C env bo v fas gs σ Im wy:=
 ⟨h.b.write hk fun b hb=>⟨(hN b hb).1.2,(hN b hb).1.1.2⟩,h.f.write hk (fun b hb hn=>(hN b hn).2 hb) (fun b hb hn=>(hN b hn).1.1.2.2 hb),fun q hq=>⟨hk.blk (h.g q hq).1 (hg q hq),(h.g q hq).2.1.up hk.size,(h.g q hq).2.2⟩⟩
theorem BnR.set_ {g i:Nat}{ty:TypeId}{cs:Array Value}(h:BnR w0 w1 p s R C env bo v fas ((g,ty,cs) ::gs) σ Im wx)(u:Value)(hd:∀ q∈gs,q.1≠g):BnR w0 w1 p s R C env bo v fas ((g,ty,cs.setIfInBounds i u) ::gs) σ Im (wx.setCell ⟨g,i,none⟩ u)∧Kp (· = g) wx (wx.setCell ⟨g,i,none⟩ u)∧∀ b,Im b→¬ b=g:=by
 have hk:Kp (· = g) wx (wx.setCell ⟨g,i,none⟩ u):=(Kp.refl (· = g) wx).setCell (p:=⟨g,i,none⟩) rfl u
 have hg:=h.g _ (List.mem_cons_self ..)
 have h0:BnR w0 w1 p s R C env bo v fas gs σ Im wx:=⟨h.b,h.f,fun q hq=>h.g q (List.mem_cons_of_mem _ hq)⟩
 have h2:=h0.write hk (fun b hb=>by subst hb;exact hg.2) hd
 refine⟨⟨h2.b,h2.f,fun q hq=>?_⟩,hk,fun b hb e=>hg.2.1.1.2.2 (e▸hb)⟩
 rcases List.mem_cons.1 hq with rfl | hq
 ·exact⟨hg.1.set_ i u,hg.2.1.up hk.size,hg.2.2⟩
 ·exact h2.g q hq
theorem BnR.cast {gs':List (Nat × TypeId × Array Value)}(h:BnR w0 w1 p s R C env bo v fas gs σ Im wx)(e:gs'=gs):BnR w0 w1 p s R C env bo v fas gs' σ Im wx:=e▸h
theorem BnR.store4 {g:Nat}{ty:TypeId}{z0 z1 z2 z3:Value}(h:BnR w0 w1 p s R C env bo v fas ((g,ty,#[z0,z1,z2,z3]) ::gs) σ Im wx)(v0 v1 v2 v3:Value)(hd:∀ q∈gs,q.1≠g) :
  BnR w0 w1 p s R C env bo v fas ((g,ty,#[v0,v1,v2,v3]) ::gs) σ Im ((((wx.setCell ⟨g,0,none⟩ v0).setCell ⟨g,1,none⟩ v1).setCell ⟨g,2,none⟩ v2).setCell ⟨g,3,none⟩ v3)∧Kp (· = g) wx ((((wx.setCell ⟨g,0,none⟩ v0).setCell ⟨g,1,none⟩ v1).setCell ⟨g,2,none⟩ v2).setCell ⟨g,3,none⟩ v3)∧∀ b,Im b→¬ b=g:=by
 obtain⟨h0,k0,hi⟩:=h.set_ (i:=0) v0 hd
 obtain⟨h1,k1,_⟩:=h0.set_ (i:=1) v1 hd
 obtain⟨h2,k2,_⟩:=h1.set_ (i:=2) v2 hd
 obtain⟨h3,k3,_⟩:=h2.set_ (i:=3) v3 hd
 exact⟨h3.cast (by simp),((k0.trans k1).trans k2).trans k3,hi⟩
theorem BnR.step (h:BnR w0 w1 p s R C env bo v fas gs σ Im wx)(hS:St R C 1099511627776 s' σ' Im' wy)(hQ:Sp (zn R C σ Im) wx (zn R C σ' Im') wy)(hG:Gr wx σ σ'):BnR w0 w1 p s' R C env bo v fas gs σ' Im' wy:=
 ⟨h.b.step hS hQ hG,h.f.step h.b.st.zo hQ,fun q hq=>⟨hQ.kp.blk (h.g q hq).1 (h.g q hq).2.1.1.2.1,(h.g q hq).2.1.step hQ,(h.g q hq).2.2⟩⟩
end
def zM7 (W:World)(t:TypeId)(A:Option Addr):Prop:=∀ a,A=some a→∃ cs,Blk W a.block t cs
theorem yN3 {w:World}{base e size n c:Nat}{A:Option Addr}{xs:List Value}(h:w.ownsRow base e size (.slice A n c) n xs):zM7 w e A:=by
 intro a ha
 rcases h.2 with ⟨h,_⟩ | ⟨g,cap,cur,h,_,hc,_⟩
 ·injection h with h
  rw[h] at ha
  cases ha
 ·injection h with h
  rw[h] at ha
  injection ha with ha
  subst ha
  exact⟨cur,hc⟩
def NewSl {α:Type}(z k:Nat)(enc:α→List Value)(ty:TypeId)(A:Option Addr)(xs:List α)(W:World):Prop:=SlN W W.heap.size k enc A xs∧(xs=[]∨zM7 W ty A)∧∀ a,xs≠[]→A=some a→z≤a.block
theorem NewSl.below {α:Type}{z k:Nat}{enc:α→List Value}{ty:TypeId}{A:Option Addr}{xs:List α}{W W':World}(h:NewSl z k enc ty A xs W)(hb:Below W.heap.size W W'):NewSl z k enc ty A xs W':=
 ⟨(h.1.below hb).more hb.size,h.2.1.imp id fun h a ha=>by
   obtain⟨cs,hc⟩:=h a ha
   exact⟨cs,hc.keep hb⟩,h.2.2⟩
theorem NewSl.low {α:Type}{z z' k:Nat}{enc:α→List Value}{ty:TypeId}{A:Option Addr}{xs:List α}{W:World}(h:NewSl z k enc ty A xs W)(hz:z'≤z):NewSl z' k enc ty A xs W:=⟨h.1,h.2.1,fun a h1 h2=>Nat.le_trans hz (h.2.2 a h1 h2)⟩
set_option maxRecDepth 100000 in
theorem yC4 (A:Option Addr)(c:Nat)(l:List Imp)(w:World)(hA:SlN w w.heap.size 3 encI A l):Calls Tryz.prog 61 #[.slice A l.length c] w fun e w'=>∃ A' c',e=.returned (.slice A' l.length c')∧NewSl w.heap.size 3 encI 60 A' l w'∧Below w.heap.size w w':=by
 by_cases hnil:l=[]
 ·subst hnil
  refine(yC3 A c [] w hA).mono ?_
  rintro e w' ⟨A',c',rfl,h1,h2,_⟩
  exact⟨A',c',rfl,⟨h1,.inl rfl,fun a h=>absurd rfl h⟩,h2⟩
 ·obtain⟨hA,hl⟩:=hA
  rcases hA with h | ⟨b,off,rfl,hb,hc⟩
  ·exact absurd h hnil
  ·obtain⟨_,h0,i,z,e1,e2,e3,e4,e5⟩:=xV7
   have hsr:=(Sl.src (.inr ⟨b,off,rfl,hb,hc⟩:Sl w w.heap.size 3 encI (some ⟨b,off,none⟩) l) zO8)
   have hpos:0 < l.length:=Nat.pos_of_ne_zero fun e=>hnil (List.eq_nil_of_length_eq_zero e)
   refine(AnyE.slices_Clone Tryz.cloneI i z 3 40 e1 e2 e3 e4 e5 h0 Tryz.sizeOf60 b off l.length c (l.flatMap encI) w (zL0 zO8 l) (by simp only[maxLen];omega) (by omega) (fun j u hu=>?_) (yG1 l)).mono ?_
   ·obtain⟨ad,had,hcs⟩:=hsr.2 hpos
    injection had with had
    subst had
    have:=hcs j u hu
    rwa [Addr.add_lit] at this
   ·rintro e w' ⟨v,rfl,h1,h2,h3⟩
    have hA:Acc w' w.heap.size 60 3 v l.length (l.flatMap encI):=.inl h1
    obtain⟨A',c',rfl⟩:=hA.shape
    obtain⟨_,h4⟩:=zO1 zO8 hA (by decide)
    exact⟨A',c',rfl,⟨⟨h4,hl⟩,.inr (yN3 h1),fun a _ ha=>by subst ha;exact(h1.lt a.block rfl).1⟩,h3⟩
theorem yC5 (A:Option Addr)(c:Nat)(l:List Tx)(w:World)(hA:SlN w w.heap.size 1 encS A l):Calls Tryz.prog 62 #[.slice A l.length c] w fun e w'=>∃ A' c',e=.returned (.slice A' l.length c')∧NewSl w.heap.size 1 encS 9 A' l w'∧Below w.heap.size w w':=by
 by_cases hnil:l=[]
 ·subst hnil
  refine(zL1 A c [] w hA).mono ?_
  rintro e w' ⟨A',c',rfl,h1,h2,_⟩
  exact⟨A',c',rfl,⟨h1,.inl rfl,fun a h=>absurd rfl h⟩,h2⟩
 ·obtain⟨hS,hl⟩:=hA
  rcases hS with h | ⟨b,off,rfl,hb,hc⟩
  ·exact absurd h hnil
  ·refine(Tryz.slices_Clone_string b off l.length c (l.map fun s=>⟨s.toArray⟩) w (by simp) (by omega) (fun j hj=>?_)).mono ?_
   ·have hj':j < l.length:=by simpa using hj
    have h1:=hc j hj' 0 _ rfl
    simp only[Nat.mul_one,Nat.add_zero] at h1
    rw[h1]
    simp[hj']
   ·rintro e w' ⟨v',rfl,h1,_,hb⟩
    rw[List.take_of_length_le (by simp)] at h1
    have e1:(l.map fun s=>(⟨s.toArray⟩:ByteArray)).map Value.string=strs l:=by simp[strs,Function.comp_def]
    rw[e1] at h1
    obtain⟨A',c',rfl,h2,h3⟩:=yV3 h1
    exact⟨A',c',rfl,⟨⟨h2,hl⟩,.inr (yN3 h1),fun a _ ha=>h3 a ha⟩,hb⟩
theorem BnR.made {X:Type}{w0 w1 wx wf:World}{p:PA}{s bo:Nat}{R:RF}{C:Clo X}{env:List ScA}{v:Value}{fas:List FA}{gs:List (Nat × TypeId × Array Value)}{σ:GS X}{Im:Nat→Prop}{A7 A8:Option Addr}{fimps:List Imp}{ftail:List Tx}{g:Nat}{cs:Array Value}
  (h:BnR w0 w1 p s R C env bo v fas gs σ Im wx)(hb:Below wx.heap.size wx wf)(h7:NewSl wx.heap.size 3 encI 60 A7 fimps wf)(h8:NewSl wx.heap.size 1 encS 9 A8 ftail wf)(hl7:fimps.length≤1048576)(hl8:ftail.length≤1048576)(hG:Blk wf g 58 cs)(hg:wx.heap.size≤g) :
  ∃ Im9:Nat→Prop,BnR w0 w1 p s R C env bo v fas ((g,58,cs) ::gs) σ Im9 wf∧SlI Im9 wf 3 encI A7 fimps∧SlI Im9 wf 1 encS A8 ftail∧∀ q∈gs,q.1≠g:=by
 have k7:=yS5 h.b.st.zo h7.1.1 h7.2.2
 have k8:=yS5 h.b.st.zo h8.1.1 h8.2.2
 have hne7:¬ (fimps≠[]∧∃ ad,A7=some ad∧ad.block=g):=fun⟨hn,ad,h1,h2⟩=>by
  rcases h7.2.1 with h3 | h3
  ·exact hn h3
  ·obtain⟨cs',hc⟩:=h3 ad h1
   rw[h2] at hc
   exact absurd (hc.inj hG).1 (by decide)
 have hne8:¬ (ftail≠[]∧∃ ad,A8=some ad∧ad.block=g):=fun⟨hn,ad,h1,h2⟩=>by
  rcases h8.2.1 with h3 | h3
  ·exact hn h3
  ·obtain⟨cs',hc⟩:=h3 ad h1
   rw[h2] at hc
   exact absurd (hc.inj hG).1 (by decide)
 have hd:∀ q∈gs,q.1≠g:=fun q hq e=>by have:=(h.g q hq).2.1.1.1;omega
 have hB:=h.below hb
 have hF:∀ q,((fimps≠[]∧∃ ad,A7=some ad∧ad.block=q)∨(ftail≠[]∧∃ ad,A8=some ad∧ad.block=q))→Mine (zn R C σ Im) wf q∧wx.heap.size≤q:=fun q hq=>hq.elim (k7 q) (k8 q)
 refine⟨fun b=>Im b∨((fimps≠[]∧∃ ad,A7=some ad∧ad.block=b)∨(ftail≠[]∧∃ ad,A8=some ad∧ad.block=b)),⟨hB.b.freeze fun q hq=>⟨(hF q hq).1,Nat.le_trans h.b.lo.size (hF q hq).2⟩,hB.f.freeze fun b hb hq=>by have h1:=(hF b hq).2;have h2:=(h.f.ma b hb).1.1.1;omega,fun q hq=>?_⟩,?_,?_,hd⟩
 ·rcases List.mem_cons.1 hq with rfl | hq
  ·exact⟨hG,(show MineR R C σ Im w1 wf g from⟨h.b.st.zo.new_ hg hG.lt,Nat.le_trans h.b.lo.size hg⟩).freeze fun hq=>hq.elim hne7 hne8,fun e=>by have:=(h.f.ma _ e).1.1.1;dsimp only at this;omega⟩
  ·exact⟨(hB.g q hq).1,(hB.g q hq).2.1.freeze fun hq2=>by have h1:=(hF q.1 hq2).2;have h2:=(h.g q hq).2.1.1.1;omega,(hB.g q hq).2.2⟩
 ·refine⟨h7.1.1,hl7,?_⟩
  by_cases hnt:fimps=[]
  ·exact .inl hnt
  ·exact .inr fun ad had=>.inr (.inl ⟨hnt,ad,had,rfl⟩)
 ·refine⟨h8.1.1,hl8,?_⟩
  by_cases hnt:ftail=[]
  ·exact .inl hnt
  ·exact .inr fun ad had=>.inr (.inr ⟨hnt,ad,had,rfl⟩)
theorem zeroFile (w:World):(zeroValue 58).run Tryz.prog w=.ok (.agg #[.string ByteArray.empty,.slice none 0 0,.slice none 0 0,.slice none 0 0]) w:=Tryz.zeroValue58 w
set_option maxRecDepth 100000 in
theorem zU3 {o:Oper}{P:Program}{Q:Exit→Act→World→Prop}{K:Act→World→Prop}{W:World}{fs:List Fact}{G:Act→Prop}(aa ab ac ad ae af ag ah ai aj ak al am an ao ap aq ar au av aw ax ay az aA aB aC aD aE aF aG aH aI aJ aK aL aM aN aO aP aQ aR aS aT aU aV aW aX aY aZ a0 a1 a2 a3 a4 a5 a6 a7 a8 a9 ba bb bc bd be bf bg bh bi bj bk bl bm bn bo bp bq br bs bt bu bv bw bx bz bA bB bC bD:Value)(hG:∀ A,o.wp P A W K Q→G A)(h:o.wp P (Act.mk #[aa,ab,ac,ad,ae,af,ag,ah,ai,aj,bD,al,am,an,ao,ap,aq,ar,au,av,aw,ax,ay,az,aA,aB,aC,aD,aE,aF,aG,aH,aI,aJ,aK,aL,aM,bt,bu,bv,bw,bx,bz,bA,bB,bC,aW,aX,aY,aZ,a0,a1,a2,a3,a4,a5,a6,a7,a8,a9,ba,bb,bc,bd,be,bf,bg,bh,bi,bj,bk,bl,bm,bn,bo,bp,bq,br,bs] []) W K Q):zX1 W G [] fs (Act.put (Act.put (Act.put (Act.put (Act.put (Act.put (Act.put (Act.put (Act.put (Act.put (Act.mk #[aa,ab,ac,ad,ae,af,ag,ah,ai,aj,ak,al,am,an,ao,ap,aq,ar,au,av,aw,ax,ay,az,aA,aB,aC,aD,aE,aF,aG,aH,aI,aJ,aK,aL,aM,aN,aO,aP,aQ,aR,aS,aT,aU,aV,aW,aX,aY,aZ,a0,a1,a2,a3,a4,a5,a6,a7,a8,a9,ba,bb,bc,bd,be,bf,bg,bh,bi,bj,bk,bl,bm,bn,bo,bp,bq,br,bs] []) (some 37) bt) (some 38) bu) (some 39) bv) (some 40) bw) (some 41) bx) (some 42) bz) (some 43) bA) (some 44) bB) (some 45) bC) (some 10) bD):=
 zT9 (by kernel_rfl) hG h
set_option maxRecDepth 100000 in
set_option maxHeartbeats 16000000 in
theorem yK5 (rx:Tx→Bool)(p:PA)(w:World)(hP:PkL w p)(hR:∀ f∈p.files,PatDs (RxOk rx) (plDs f.decls))(hG:Glob w)(hs:(∀ f∈p.files,errF rx (plF f)=0)→wF p.files+((p.files.map fun f=>vDs f.decls).sum+(p.files.map fun f=>vDs f.decls).sum)≤1099511627776) :
  Calls Tryz.prog 25 #[.agg #[.string ⟨p.path.toArray⟩,.slice p.A p.files.length p.c]] w (yG2 rx p w):=by
 obtain⟨w1,hw1⟩:∃ w1,(w.alloc (.cells #[.string ⟨p.path.toArray⟩,.slice p.A p.files.length p.c] 24)).alloc (.cells #[.string ⟨#[]⟩,.slice none 0 0] 24)=w1:=⟨_,rfl⟩
 have hb1:Below w.heap.size w w1:=by rw[←hw1];exact((Below.refl w.heap.size w).alloc (Nat.le_refl _) _).alloc (by simp) _
 have hz1:w1.heap.size=w.heap.size+1+1:=by rw[←hw1];simp
 have HZ1:=Lib.hid (show w.heap.size+1 < w1.heap.size from by omega)
 have HB0:=Lib.hid (show Blk w1 w.heap.size 24 #[.string ⟨p.path.toArray⟩,.slice p.A p.files.length p.c] from by rw[←hw1];exact(Blk.new w _ _).alloc _)
 have HBr:=Lib.hid (show Blk w1 (w.heap.size+1) 24 #[.string ⟨#[]⟩,.slice none 0 0] from by
  rw[←hw1]
  have:=Blk.new (w.alloc (.cells #[.string ⟨p.path.toArray⟩,.slice p.A p.files.length p.c] 24)) 24 #[.string ⟨#[]⟩,.slice none 0 0]
  rw[World.size_alloc] at this
  exact this)
 have HW:=Lib.hid hb1
 have hnf:=hP.nf
 have HP:=Lib.hid hP
 have HRx:=Lib.hid hR
 have HGl:=Lib.hid (hG.keep hb1)
 have cL:=Lib.hid (yP4 rx p ((p.files.map fun f=>vDs f.decls).sum) w1 hb1.size (hP.ok.below hb1) (hP.keep hb1) hR (hG.keep hb1) hs)
 clear hP hR hG hs hb1 hz1
 go_enter Tryz.func25,Tryz.ntmps25
 go_upto_region 1 with fail
 clear hw1
 have b0:=HB0.out.cell 0
 have b1:=HB0.out.cell 1
 go_wp2_with fail
 refine cL.out.mono ?_
 rintro e w2 h
 obtain⟨hb2,h⟩:=loadRes h
 clear b0 b1 cL
 have HB2:=Lib.hid hb2
 have HBr2:=Lib.hid (HBr.out.keep hb2)
 clear hb2
 rcases h with ⟨ee,hne,hRK,rfl⟩ | ⟨h0,hok,R,σ0,σ,env,rs0,Im,hRt,hV,rfl,hO⟩
 ·have hbA:=(Below.refl w2.heap.size w2).alloc (Nat.le_refl _) (.cells #[.pointer none] 77)
  have HA:=Lib.hid (HBr2.out.keep hbA)
  have HWA:=Lib.hid (HW.out.trans ((HB2.out.trans (hbA.mono HB2.out.size)).mono HW.out.size))
  have HRK:=Lib.hid (show ee≠0∧ResK rx (plP p) [] ee from⟨hne,hRK⟩)
  clear hbA hRK
  go_upto_region 2 with fail
  generalize w2.alloc (.cells #[.pointer none] 77)=wA at HA HWA ⊢
  have y0:=(zU4 HA.out).1
  have y1:=(zU4 HA.out).2
  have zf0:=HA.out.free 0
  have zf1:=HA.out.free 1
  go_wp2
  clear y0 y1 zf0 zf1
  obtain⟨hB8,hK8⟩:=res2 HA.out (.string ⟨#[]⟩) (.slice none 0 0)
  have HR:=Lib.hid (zF0 HWA.out hK8 (Nat.le_succ _) HRK.out.1 HRK.out.2)
  obtain⟨z0,z1⟩:=zU4 hB8
  refine bodyPost_ret (v:=.tuple #[.agg #[.string ⟨#[]⟩,.slice none 0 0],.int .i64 ee]) ?_ rfl HR.out
  simp[results,Tryz.results25,go_sem,z0,z1]
 ·have HE0:=Lib.hid h0
  have HOk:=Lib.hid hok
  have HRt:=Lib.hid (show _∧_ from⟨hRt,hV⟩)
  have hbB:Below w2.heap.size w2 ((w2.alloc (.cells #[.pointer (some ⟨R.r,0,none⟩)] 77)).alloc (.cells #[.bool false] 4)):=((Below.refl w2.heap.size w2).alloc (Nat.le_refl _) _).alloc (by simp) _
  have hrb:Blk ((w2.alloc (.cells #[.pointer (some ⟨R.r,0,none⟩)] 77)).alloc (.cells #[.bool false] 4)) R.r 86 #[.string ⟨R.path.toArray⟩,.slice R.FA R.nF R.cF,.pointer (some ⟨R.root,0,none⟩),.slice R.Ai R.iB.length R.ci,.slice R.Au R.uB.length R.cu,σ.av,.bool σ.ρ.twice,.bool σ.ρ.cyc,R.use]:=hO.st.rs.rc.keep hbB
  have hbr:Blk ((w2.alloc (.cells #[.pointer (some ⟨R.r,0,none⟩)] 77)).alloc (.cells #[.bool false] 4)) w2.heap.size 77 #[.pointer (some ⟨R.r,0,none⟩)]:=(Blk.new w2 _ _).alloc _
  have hbd:Blk ((w2.alloc (.cells #[.pointer (some ⟨R.r,0,none⟩)] 77)).alloc (.cells #[.bool false] 4)) (w2.heap.size+1) 4 #[.bool false]:=by
   have:=Blk.new (w2.alloc (.cells #[.pointer (some ⟨R.r,0,none⟩)] 77)) 4 #[.bool false]
   rw[World.size_alloc] at this
   exact this
  have r8:=hrb.cell 8
  have f8:=hrb.free 8
  have x0:=hbr.cell 0
  have hkS:Kp (fun b=>b=R.r) w2 (((w2.alloc (.cells #[.pointer (some ⟨R.r,0,none⟩)] 77)).alloc (.cells #[.bool false] 4)).setCell ⟨R.r,8,none⟩ (.func (.func 59) #[] #[.pointer (some ⟨w2.heap.size,0,none⟩),.pointer (some ⟨w2.heap.size+1,0,none⟩)])):=(((Kp.refl (fun b=>b=R.r) w2).alloc _).alloc _).setCell (p:=⟨R.r,8,none⟩) rfl _
  have hrS:Blk (((w2.alloc (.cells #[.pointer (some ⟨R.r,0,none⟩)] 77)).alloc (.cells #[.bool false] 4)).setCell ⟨R.r,8,none⟩ (.func (.func 59) #[] #[.pointer (some ⟨w2.heap.size,0,none⟩),.pointer (some ⟨w2.heap.size+1,0,none⟩)])) R.r 86 #[.string ⟨R.path.toArray⟩,.slice R.FA R.nF R.cF,.pointer (some ⟨R.root,0,none⟩),.slice R.Ai R.iB.length R.ci,.slice R.Au R.uB.length R.cu,σ.av,.bool σ.ρ.twice,.bool σ.ρ.cyc,.func (.func 59) #[] #[.pointer (some ⟨w2.heap.size,0,none⟩),.pointer (some ⟨w2.heap.size+1,0,none⟩)]]:=by simpa using hrb.set_ 8 (.func (.func 59) #[] #[.pointer (some ⟨w2.heap.size,0,none⟩),.pointer (some ⟨w2.heap.size+1,0,none⟩)])
  have hbrS:Blk (((w2.alloc (.cells #[.pointer (some ⟨R.r,0,none⟩)] 77)).alloc (.cells #[.bool false] 4)).setCell ⟨R.r,8,none⟩ (.func (.func 59) #[] #[.pointer (some ⟨w2.heap.size,0,none⟩),.pointer (some ⟨w2.heap.size+1,0,none⟩)])) w2.heap.size 77 #[.pointer (some ⟨R.r,0,none⟩)]:=hbr.far (fun e=>zS7 hbr hrb (by decide) e) _
  have hbdS:Blk (((w2.alloc (.cells #[.pointer (some ⟨R.r,0,none⟩)] 77)).alloc (.cells #[.bool false] 4)).setCell ⟨R.r,8,none⟩ (.func (.func 59) #[] #[.pointer (some ⟨w2.heap.size,0,none⟩),.pointer (some ⟨w2.heap.size+1,0,none⟩)])) (w2.heap.size+1) 4 #[.bool false]:=hbd.far (fun e=>zS7 hbd hrb (by decide) e) _
  have hszS:((((w2.alloc (.cells #[.pointer (some ⟨R.r,0,none⟩)] 77)).alloc (.cells #[.bool false] 4)).setCell ⟨R.r,8,none⟩ (.func (.func 59) #[] #[.pointer (some ⟨w2.heap.size,0,none⟩),.pointer (some ⟨w2.heap.size+1,0,none⟩)]))).heap.size=w2.heap.size+1+1:=by simp[World.setCell]
  have HS9:=Lib.hid (show _∧_∧_∧_∧_ from⟨hkS,hrS,hbrS,hbdS,hszS⟩)
  have HO:=Lib.hid hO
  clear h h0 hok hRt hV hbB hrb hbr hbd hkS hrS hbrS hbdS hszS hO
  go_upto_region 6 with fail
  clear r8 f8 x0
  generalize (((w2.alloc (.cells #[.pointer (some ⟨R.r,0,none⟩)] 77)).alloc (.cells #[.bool false] 4)).setCell ⟨R.r,8,none⟩ (.func (.func 59) #[] #[.pointer (some ⟨w2.heap.size,0,none⟩),.pointer (some ⟨w2.heap.size+1,0,none⟩)]))=wS at HS9 ⊢
  have hIB:BtwR w w1 p ((p.files.map fun f=>vDs f.decls).sum) (R.with_ (.func (.func 59) #[] #[.pointer (some ⟨w2.heap.size,0,none⟩),.pointer (some ⟨w2.heap.size+1,0,none⟩)])) (cloR R.r w2.heap.size (w2.heap.size+1)) env (σ.put false) Im wS:=by
   have hO:=HO.out
   obtain⟨hkS,hrS,hbrS,hbdS,hszS⟩:=HS9.out
   have hrN:∀ b,Im b→¬ b=R.r:=fun b hb e=>(hO.st.zo.mu b (.inl e)).2 hb
   have hT:St (R.with_ (.func (.func 59) #[] #[.pointer (some ⟨w2.heap.size,0,none⟩),.pointer (some ⟨w2.heap.size+1,0,none⟩)])) (cloR R.r w2.heap.size (w2.heap.size+1)) 1099511627776 ((p.files.map fun f=>vDs f.decls).sum) (σ.put false) Im wS:=
    hO.st.swap (C':=(cloR R.r w2.heap.size (w2.heap.size+1))) (x':=false) (.func (.func 59) #[] #[.pointer (some ⟨w2.heap.size,0,none⟩),.pointer (some ⟨w2.heap.size+1,0,none⟩)]) hkS hrS ⟨hbrS,hbdS⟩ (fun b hb=>by rcases hb with e | e <;> (rw[e];constructor <;> omega)) rfl
   have hpk:=hO.pk.kept hkS hrN (fun _ h=>h)
   refine⟨hT,⟨hpk.len,hpk.sl,hpk.ds,hpk.ts⟩,hO.en.kept hkS hrN (fun _ h=>h),hO.kn,hO.nb,fun b hb=>?_,hO.nu,HB2.out.trans (hkS.toBelow HB2.out.size fun b hb e=>by have:=hO.mo R.r (.inl rfl);omega)⟩
   have h2:=HB2.out.size
   rcases hb with e | e | e | e | e
   ·exact hO.mo b (.inl e)
   ·exact hO.mo b (.inr (.inl e))
   ·exact hO.mo b (.inr (.inr (.inl e)))
   ·exact hO.mo b (.inr (.inr (.inr (.inl e))))
   ·rcases e with e | e <;> omega
  have b0:=(HB0.out.keep hIB.lo).cell 0
  have HIB:=Lib.hid hIB
  clear hIB HO HS9
  go_upto_region 7 with fail
  clear b0
  have hbo:=(Below.refl wS.heap.size wS).alloc (Nat.le_refl _) (.cells #[.string ⟨p.path.toArray⟩,.slice none 0 0] 24)
  have HIO:=Lib.hid (HIB.out.below hbo)
  have HBo:=Lib.hid (show Blk (wS.alloc (.cells #[.string ⟨p.path.toArray⟩,.slice none 0 0] 24)) wS.heap.size 24 #[.string ⟨p.path.toArray⟩,.slice none 0 0]∧MineR (R.with_ (.func (.func 59) #[] #[.pointer (some ⟨w2.heap.size,0,none⟩),.pointer (some ⟨w2.heap.size+1,0,none⟩)])) (cloR R.r w2.heap.size (w2.heap.size+1)) (σ.put false) Im w1 (wS.alloc (.cells #[.string ⟨p.path.toArray⟩,.slice none 0 0] 24)) wS.heap.size from⟨Blk.new _ _ _,HIB.out.new_ (Nat.le_refl _) (by simp)⟩)
  clear hbo HIB
  have b1:=(HB0.out.keep HIO.out.lo).cell 1
  go_upto_region 8 with fail
  clear b1
  generalize (wS.alloc (.cells #[.string ⟨p.path.toArray⟩,.slice none 0 0] 24))=wO at HIO HBo ⊢
  go_loopw [32] (fun iv wq=>∃ (i:Nat) (σi:GS Bool) (Imi:Nat→Prop) (rs:List (List DA)) (fas:List FA) (Ao:Option Addr) (co:Nat),i≤p.files.length∧iv=.int .i64 (i:Nat)∧Hid (BtwR w w1 p (((p.files.drop i).map fun f=>vDs f.decls).sum) (R.with_ (.func (.func 59) #[] #[.pointer (some ⟨w2.heap.size,0,none⟩),.pointer (some ⟨w2.heap.size+1,0,none⟩)])) (cloR R.r w2.heap.size (w2.heap.size+1)) env σi Imi wq)∧Hid (Blk wq wS.heap.size 24 #[.string ⟨p.path.toArray⟩,.slice Ao i co]∧MineR (R.with_ (.func (.func 59) #[] #[.pointer (some ⟨w2.heap.size,0,none⟩),.pointer (some ⟨w2.heap.size+1,0,none⟩)])) (cloR R.r w2.heap.size (w2.heap.size+1)) σi Imi w1 wq wS.heap.size)∧Hid (FsR (R.with_ (.func (.func 59) #[] #[.pointer (some ⟨w2.heap.size,0,none⟩),.pointer (some ⟨w2.heap.size+1,0,none⟩)])) (cloR R.r w2.heap.size (w2.heap.size+1)) w1 wS.heap.size (.slice Ao i co) fas σi Imi wq)∧Hid (zO2 (R.with_ (.func (.func 59) #[] #[.pointer (some ⟨w2.heap.size,0,none⟩),.pointer (some ⟨w2.heap.size+1,0,none⟩)])) (RL (R.with_ (.func (.func 59) #[] #[.pointer (some ⟨w2.heap.size,0,none⟩),.pointer (some ⟨w2.heap.size+1,0,none⟩)]))) env 0 (p.files.take i) (σ.put false) σi rs)∧Hid (FsD p i rs fas)) (fun iv _=>p.files.length-(intOf iv).toNat)
  case atStart=>exact⟨0,σ.put false,Im,[],[],none,0,Nat.zero_le _,rfl,by simpa using HIO,HBo,Lib.hid FsR.nil_,Lib.hid ⟨rfl,rfl⟩,Lib.hid ⟨rfl,rfl,by simp⟩⟩
  case round=>
   clear HIO HBo
   obtain⟨i,σi,Imi,rs,fas,Ao,co,hi,rfl,Bi,Oi,Fi,Vi,Di⟩:=hrel
   by_cases hlt:i < p.files.length
   ·have hlt':(i:Int) < (p.files.length:Int):=by omega
    have HM:=Lib.hid (List.getElem_mem hlt)
    have HTk:=Lib.hid (List.take_succ_eq_append_getElem hlt)
    obtain⟨bb,off,hA,hbW,hc⟩:=HP.out.ok.files.1.at_ hlt
    have hwr:Below w.heap.size w wr:=HW.out.trans (Bi.out.lo.mono HW.out.size)
    obtain⟨c0,c1,c2,c3⟩:=yL3 hc
    clear hc
    replace c0:=zZ4 hwr hbW c0
    replace c1:=zZ4 hwr hbW c1
    replace c2:=zZ4 hwr hbW c2
    replace c3:=zZ4 hwr hbW c3
    have HEa:=Lib.hid (show OkF w w.heap.size p.files[i]∧(p.files[i].imps.length≤1048576∧p.files[i].tail.length≤1048576) from⟨HP.out.ok.each _ HM.out,(HP.out.sz _ HM.out).1,(HP.out.sz _ HM.out).2.2.2⟩)
    have HTs:=Lib.hid (Bi.out.pk.ts _ HM.out)
    obtain⟨f,hf⟩:∃ f,p.files[i]=f:=⟨_,rfl⟩
    rw[hf] at c0 c1 c2 c3 HTs HEa
    have HFe:=Lib.hid hf
    clear hf
    obtain⟨fpkg,fAi,fci,fimps,fAd,fcd,fdecls,fAt,fct,ftail⟩:=f
    dsimp only at c0 c1 c2 c3 HTs HEa
    have hba:=(Below.refl wr.heap.size wr).alloc (Nat.le_refl _) (.cells #[.string ⟨fpkg.toArray⟩,.slice fAi fimps.length fci,.slice fAd fdecls.length fcd,.slice fAt ftail.length fct] 58)
    have Bb:=Lib.hid (show BnR w w1 p (((p.files.drop i).map fun f=>vDs f.decls).sum) (R.with_ (.func (.func 59) #[] #[.pointer (some ⟨w2.heap.size,0,none⟩),.pointer (some ⟨w2.heap.size+1,0,none⟩)])) (cloR R.r w2.heap.size (w2.heap.size+1)) env wS.heap.size (.slice Ao i co) fas [(wS.heap.size,24,#[.string ⟨p.path.toArray⟩,.slice Ao i co])] σi Imi (wr.alloc (.cells #[.string ⟨fpkg.toArray⟩,.slice fAi fimps.length fci,.slice fAd fdecls.length fcd,.slice fAt ftail.length fct] 58)) from⟨Bi.out.below hba,Fi.out.below hba,fun q hq=>by rw[List.mem_singleton] at hq;subst hq;exact⟨Oi.out.1.keep hba,Oi.out.2.up hba.size,fun e=>(Fi.out.ma _ e).2 rfl⟩⟩)
    have Xb:=Lib.hid (Blk.new wr 58 #[.string ⟨fpkg.toArray⟩,.slice fAi fimps.length fci,.slice fAd fdecls.length fcd,.slice fAt ftail.length fct])
    have hkN:=Kp.ofBelow hba (fun _=>False)
    have Tb:=Lib.hid (show SlN (wr.alloc (.cells #[.string ⟨fpkg.toArray⟩,.slice fAi fimps.length fci,.slice fAd fdecls.length fcd,.slice fAt ftail.length fct] 58)) (wr.alloc (.cells #[.string ⟨fpkg.toArray⟩,.slice fAi fimps.length fci,.slice fAd fdecls.length fcd,.slice fAt ftail.length fct] 58)).heap.size 3 encI fAi fimps∧SlN (wr.alloc (.cells #[.string ⟨fpkg.toArray⟩,.slice fAi fimps.length fci,.slice fAd fdecls.length fcd,.slice fAt ftail.length fct] 58)) (wr.alloc (.cells #[.string ⟨fpkg.toArray⟩,.slice fAi fimps.length fci,.slice fAd fdecls.length fcd,.slice fAt ftail.length fct] 58)).heap.size 1 encS fAt ftail from⟨(HTs.out.2.kept hkN (fun _ _ h=>h) (fun _ h=>h)).n,(HTs.out.1.kept hkN (fun _ _ h=>h) (fun _ h=>h)).n⟩)
    clear hkN
    go_upto_region 10 with fail
    clear c0 c1 c2 c3 hA hbW hwr hba HTs Bi Oi Fi
    generalize wr.alloc (.cells #[.string ⟨fpkg.toArray⟩,.slice fAi fimps.length fci,.slice fAd fdecls.length fcd,.slice fAt ftail.length fct] 58)=wb at Bb Xb Tb ⊢
    have cI:=Lib.hid (fun W (hW:Below wb.heap.size wb W)=>yC4 fAi fci fimps W ((Tb.out.1.below hW).more hW.size))
    have cT:=Lib.hid (fun W (hW:Below wb.heap.size wb W)=>yC5 fAt fct ftail W ((Tb.out.2.below hW).more hW.size))
    have zr:=zeroFile
    obtain⟨k0,k1,k2,k3⟩:=zC4 Xb.out
    have hz0:wr.heap.size < wb.heap.size:=Xb.out.lt
    apply zY1 (by kernel_rfl) [isv _,isv _,isv _,isv _,(fun v W=>∃ (A7:Option Addr) (c7:Nat),v=.slice A7 fimps.length c7∧NewSl wb.heap.size 3 encI 60 A7 fimps W),isv _,isv _,(fun v W=>∃ (A8:Option Addr) (c8:Nat),v=.slice A8 ftail.length c8∧NewSl wb.heap.size 1 encS 9 A8 ftail W),(fun v W=>∃ (A7:Option Addr) (c7:Nat) (A8:Option Addr) (c8:Nat),v=.agg #[.string ⟨fpkg.toArray⟩,.slice A7 fimps.length c7,.slice none 0 0,.slice A8 ftail.length c8]∧NewSl wb.heap.size 3 encI 60 A7 fimps W∧NewSl wb.heap.size 1 encS 9 A8 ftail W),(fun v W=>∃ g:Nat,v=.pointer (some ⟨g,0,none⟩)∧wb.heap.size≤g∧Blk W g 58 #[.string ByteArray.empty,.slice none 0 0,.slice none 0 0,.slice none 0 0])] wb.heap.size wb (Nat.le_refl _) (Below.refl _ _).drew (by kernel_rfl) (by kernel_rfl) (by kernel_rfl) (by kernel_rfl) (by kernel_rfl) (And.intro (zZ1 _) (And.intro (zZ1 _) (And.intro (zZ1 _) (And.intro (zZ1 _) (And.intro (fun _ _ _ ⟨A,c,e,h⟩ hb=>⟨A,c,e,h.below hb⟩) (And.intro (zZ1 _) (And.intro (zZ1 _) (And.intro (fun _ _ _ ⟨A,c,e,h⟩ hb=>⟨A,c,e,h.below hb⟩) (And.intro (fun _ _ _ ⟨A,c,A1,c1,e,h,h1⟩ hb=>⟨A,c,A1,c1,e,h.below hb,h1.below hb⟩) (And.intro (fun _ _ _ ⟨g,e,h1,h2⟩ hb=>⟨g,e,h1,h2.keep hb⟩) trivial)))))))))) ?steps (by rfl) _ rfl rfl ?fin
    case steps=>
     refine(And.intro ?o0 (And.intro ?o1 (And.intro ?o2 (And.intro ?o3 (And.intro ?o4 (And.intro ?o5 (And.intro ?o6 (And.intro ?o7 (And.intro ?o8 (And.intro ?o9 trivial))))))))))
     case o0=>
      intro AA W KK QQ hB hs hd hl hk
      have sl9:=hs 9 _ (by kernel_rfl) rfl
      clear hs hd hl
      go_simp
      exact hk _ _ rfl (Below.refl _ _)
     case o1=>
      intro AA W KK QQ hB hs hd hl hk
      obtain⟨_,sl37,rfl⟩:=hd 0 37 (by kernel_rfl) rfl
      clear hs hd hl
      have hx0:=hB.cell (p:=⟨wr.heap.size,0,none⟩) hz0
      rw[k0] at hx0
      go_simp
      exact hk _ _ rfl (Below.refl _ _)
     case o2=>
      intro AA W KK QQ hB hs hd hl hk
      have sl9:=hs 9 _ (by kernel_rfl) rfl
      clear hs hd hl
      go_simp
      exact hk _ _ rfl (Below.refl _ _)
     case o3=>
      intro AA W KK QQ hB hs hd hl hk
      obtain⟨_,sl39,rfl⟩:=hd 2 39 (by kernel_rfl) rfl
      clear hs hd hl
      have hx1:=hB.cell (p:=⟨wr.heap.size,1,none⟩) hz0
      rw[k1] at hx1
      go_simp
      exact hk _ _ rfl (Below.refl _ _)
     case o4=>
      intro AA W KK QQ hB hs hd hl hk
      obtain⟨_,sl40,rfl⟩:=hd 3 40 (by kernel_rfl) rfl
      clear hs hd hl
      go_simp
      refine(cI.out W hB).mono ?_
      rintro e W2 ⟨A7,c7,rfl,hS7,hb2⟩
      exact hk _ _ ⟨A7,c7,rfl,hS7.low hB.size⟩ hb2
     case o5=>
      intro AA W KK QQ hB hs hd hl hk
      have sl9:=hs 9 _ (by kernel_rfl) rfl
      clear hs hd hl
      go_simp
      exact hk _ _ rfl (Below.refl _ _)
     case o6=>
      intro AA W KK QQ hB hs hd hl hk
      obtain⟨_,sl42,rfl⟩:=hd 5 42 (by kernel_rfl) rfl
      clear hs hd hl
      have hx3:=hB.cell (p:=⟨wr.heap.size,3,none⟩) hz0
      rw[k3] at hx3
      go_simp
      exact hk _ _ rfl (Below.refl _ _)
     case o7=>
      intro AA W KK QQ hB hs hd hl hk
      obtain⟨_,sl43,rfl⟩:=hd 6 43 (by kernel_rfl) rfl
      clear hs hd hl
      go_simp
      refine(cT.out W hB).mono ?_
      rintro e W2 ⟨A8,c8,rfl,hS8,hb2⟩
      exact hk _ _ ⟨A8,c8,rfl,hS8.low hB.size⟩ hb2
     case o8=>
      intro AA W KK QQ hB hs hd hl hk
      obtain⟨_,sl38,rfl⟩:=hd 1 38 (by kernel_rfl) rfl
      obtain⟨_,sl41,⟨A7,c7,rfl,hS7⟩⟩:=hd 4 41 (by kernel_rfl) rfl
      obtain⟨_,sl44,⟨A8,c8,rfl,hS8⟩⟩:=hd 7 44 (by kernel_rfl) rfl
      clear hs hd hl
      go_simp
      exact hk _ _ ⟨A7,c7,A8,c8,rfl,hS7,hS8⟩ (Below.refl _ _)
     case o9=>
      intro AA W KK QQ hB hs hd hl hk
      clear hs hd hl
      go_simp
      exact hk _ _ ⟨_,rfl,hB.size,Blk.new _ _ _⟩ ((Below.refl _ _).alloc (Nat.le_refl _) _)
    case fin=>
     intro wf hB GG hGG
     refine zZ0 37 rfl ?_
     refine zZ0 38 rfl ?_
     refine zZ0 39 rfl ?_
     refine zZ0 40 rfl ?_
     refine zZ9 41 rfl ?_
     rintro _ ⟨_,_,rfl,_⟩
     refine zZ0 42 rfl ?_
     refine zZ0 43 rfl ?_
     refine zZ9 44 rfl ?_
     rintro _ ⟨_,_,rfl,_⟩
     refine zZ9 45 rfl ?_
     rintro _ ⟨A7,c7,A8,c8,rfl,hS7,hS8⟩
     refine zZ9 10 rfl ?_
     rintro _ ⟨g,rfl,hg,hG⟩
     refine zU3 _ _ _ _ _ _ _ _ _ _ _ _ _ _ _ _ _ _ _ _ _ _ _ _ _ _ _ _ _ _ _ _ _ _ _ _ _ _ _ _ _ _ _ _ _ _ _ _ _ _ _ _ _ _ _ _ _ _ _ _ _ _ _ _ _ _ _ _ _ _ _ _ _ _ _ _ _ _ _ _ _ _ _ _ _ _ _ _ _ hGG ?_
     clear hGG k0 k1 k2 k3 zr
     obtain⟨Im9,h9,s7,s8,hd9⟩:=Bb.out.made hB hS7 hS8 HEa.out.2.1 HEa.out.2.2 hG hg
     have g0:=hG.cell 0
     have g1:=hG.cell 1
     have g2:=hG.cell 2
     have g3:=hG.cell 3
     have k0:=hG.free 0
     have k1:=hG.free 1
     have k2:=hG.free 2
     have k3:=hG.free 3
     obtain⟨h10,q10,i10⟩:=h9.store4 (.string ⟨fpkg.toArray⟩) (.slice A7 fimps.length c7) (.slice none 0 0) (.slice A8 ftail.length c8) hd9
     have B9:=Lib.hid h10
     have S9:=Lib.hid (show _∧_∧_ from⟨s7.kept q10 i10 (fun _ h=>h),s8.kept q10 i10 (fun _ h=>h),hd9⟩)
     clear h9 s7 s8 hd9 h10 q10 i10 hS7 hS8 hG hB hg hz0 cI cT Bb Xb Tb
     go_simp
     generalize (((wf.setCell ⟨g,0,none⟩ (.string ⟨fpkg.toArray⟩)).setCell ⟨g,1,none⟩ (.slice A7 fimps.length c7)).setCell ⟨g,2,none⟩ (.slice none 0 0)).setCell ⟨g,3,none⟩ (.slice A8 ftail.length c8)=w3 at B9 S9 ⊢
     clear g0 g1 g2 g3 k0 k1 k2 k3
     have x0:=B9.out.b.st.cl.1.cell 0
     obtain⟨bF',bL',henv⟩:=HRt.out.1.ev
     have hsum:((p.files.drop i).map fun f=>vDs f.decls).sum=((p.files.drop (i+1)).map fun f=>vDs f.decls).sum+vDs p.files[i].decls:=by rw[List.drop_eq_getElem_cons hlt,List.map_cons,List.sum_cons,Nat.add_comm]
     have hB:=B9.out.b
     have cF:=Lib.hid (yU0 (R:=(R.with_ (.func (.func 59) #[] #[.pointer (some ⟨w2.heap.size,0,none⟩),.pointer (some ⟨w2.heap.size+1,0,none⟩)]))) (C:=(cloR R.r w2.heap.size (w2.heap.size+1))) (U:=RL (R.with_ (.func (.func 59) #[] #[.pointer (some ⟨w2.heap.size,0,none⟩),.pointer (some ⟨w2.heap.size+1,0,none⟩)]))) p.files i hlt (declsR rfl _) σi Im9 w3 (((p.files.drop (i+1)).map fun f=>vDs f.decls).sum) env (by rw[←hsum];exact hB.st) hB.pk hB.en hB.kn (by rw[henv];simp) (by rw[hB.nu];exact hlt) (by rw[henv];have h:=yU3 HOk.out _ (List.getElem_mem hlt);simp;omega))
     clear hsum henv hB
     go_wp2_with fail
     refine cF.out.mono ?_
     rintro e w4 ⟨σ',Im',l',A',c',rfl,hV,hS,hQ,hGr,hSl,hOl⟩
     have B4:=Lib.hid (B9.out.step hS hQ hGr)
     have hN:∀ b,Im9 b→¬ (zn (R.with_ (.func (.func 59) #[] #[.pointer (some ⟨w2.heap.size,0,none⟩),.pointer (some ⟨w2.heap.size+1,0,none⟩)])) (cloR R.r w2.heap.size (w2.heap.size+1)) σi Im9).Mut b:=fun b hb hm=>(B9.out.b.st.zo.mu b hm).2 hb
     have S4:=Lib.hid (show SlI Im' w4 3 encI A7 fimps∧SlI Im' w4 1 encS A8 ftail∧SlI Im' w4 11 encD A' l'∧OkIds Im' w4 l' from⟨S9.out.1.kept hQ.kp hN hQ.im,S9.out.2.1.kept hQ.kp hN hQ.im,hSl,hOl⟩)
     have HD9:=Lib.hid S9.out.2.2
     have V4:=Lib.hid (show zO2 (R.with_ (.func (.func 59) #[] #[.pointer (some ⟨w2.heap.size,0,none⟩),.pointer (some ⟨w2.heap.size+1,0,none⟩)])) (RL (R.with_ (.func (.func 59) #[] #[.pointer (some ⟨w2.heap.size,0,none⟩),.pointer (some ⟨w2.heap.size+1,0,none⟩)]))) env 0 (p.files.take (i+1)) (σ.put false) σ' (rs++ [l']) from by
      rw[HTk.out]
      refine zG3 Vi.out ?_
      have e:0+(p.files.take i).length=i:=by rw[List.length_take];omega
      rw[e]
      exact hV)
     have D4:=Lib.hid (Di.out.snoc (g:=⟨fpkg,A7,c7,fimps,A',c',l',A8,c8,ftail⟩) (d:=l') hlt (by rw[HFe.out]))
     have HL:=Lib.hid Di.out.1
     clear cF x0 hV hS hQ hGr hSl hOl hN B9 S9 Vi Di
     have g2:=(B4.out.g _ (List.mem_cons_self ..)).1.cell 2
     have k2:=(B4.out.g _ (List.mem_cons_self ..)).1.free 2
     obtain⟨h5,q5,i5⟩:=B4.out.set_ (i:=2) (.slice A' l'.length c') HD9.out
     have B5:=Lib.hid (h5.cast (gs':=[(g,58,#[.string ⟨fpkg.toArray⟩,.slice A7 fimps.length c7,.slice A' l'.length c',.slice A8 ftail.length c8]),(wS.heap.size,24,#[.string ⟨p.path.toArray⟩,.slice Ao i co])]) (by simp))
     have S5:=Lib.hid (show FI Im' (w4.setCell ⟨g,2,none⟩ (.slice A' l'.length c')) ⟨fpkg,A7,c7,fimps,A',c',l',A8,c8,ftail⟩ from⟨HEa.out.1.pkg,HEa.out.1.names,S4.out.1.kept q5 i5 (fun _ h=>h),S4.out.2.2.1.kept q5 i5 (fun _ h=>h),(zZ5 q5 i5 (fun _ h=>h)).2.2.2 _ S4.out.2.2.2,S4.out.2.1.kept q5 i5 (fun _ h=>h)⟩)
     clear h5 q5 i5 S4 B4
     go_upto_region 12 with fail
     clear g2 k2
     generalize w4.setCell ⟨g,2,none⟩ (.slice A' l'.length c')=w5 at B5 S5 ⊢
     obtain⟨e0,e1,e2,e3⟩:=zC4 (B5.out.g _ (List.mem_cons_self ..)).1
     have HGo:=Lib.hid (B5.out.g _ (List.mem_cons_of_mem _ (List.mem_cons_self ..)))
     have o1:=HGo.out.1.cell 1
     have HAc:=Lib.hid (show Acc w5 0 58 4 (.slice Ao i co) i (fas.flatMap encF) from by have h:=B5.out.f.ac;rw[HL.out] at h;exact h)
     go_upto_region 13 with (at_builtin;refine zU1 _ rfl (.tmp 51) (.tmp 53) 22 rfl 0 58 4 88 elFile _ _ _ rfl (HAc.out.alloc _) _ 1 _ _ rfl (Src.lit _ 4 _ _ 1 rfl) (by simp[Value.oneCell']) (by simp only[maxLen];omega) (by omega) (Nat.zero_le _) ?_;intro v' w6 hacc' hg' _ _ hob';have HA6:=Lib.hid (B5.out.f.app B5.out.b.st.zo B5.out.b.lo.size HGo.out.2.1.1.1 S5.out (by rw[HL.out];simpa[encF] using hacc') hg' hob');have hO6:=HA6.out.2.blk HGo.out.1 HGo.out.2.2;have y1:=hO6.cell 1;have z1:=hO6.free 1;obtain⟨A6,c6,hv6⟩:=hacc'.shape;subst hv6)
     clear e0 e1 e2 e3 o1 y1 z1
     have hb6:=B5.out.b.write HA6.out.2 (fun b hb=>⟨(B5.out.f.ma b hb).1.2,(B5.out.f.ma b hb).1.1.2⟩)
     have hm6:=HGo.out.2.1.up HA6.out.2.size
     have hk7:Kp (· = wS.heap.size) w6 (w6.setCell ⟨wS.heap.size,1,none⟩ (.slice A6 (i+1) c6)):=(Kp.refl (· = wS.heap.size) w6).setCell (p:=⟨wS.heap.size,1,none⟩) rfl _
     have HB7:=Lib.hid (hb6.write hk7 fun b hb=>by subst hb;exact⟨hm6.2,hm6.1.2⟩)
     have HF7:=Lib.hid (HA6.out.1.write hk7 (fun b hb e=>(HA6.out.1.ma b hb).2 e) (fun b hb e=>by subst e;exact hm6.1.2.2 hb))
     have HO7:=Lib.hid (show Blk (w6.setCell ⟨wS.heap.size,1,none⟩ (.slice A6 (i+1) c6)) wS.heap.size 24 #[.string ⟨p.path.toArray⟩,.slice A6 (i+1) c6]∧_ from⟨by simpa using hO6.set_ 1 (.slice A6 (i+1) c6),hm6.up hk7.size⟩)
     clear hb6 hm6 hk7 hO6
     go_wp2
     go_roundw
     case rel=>exact⟨i+1,σ',Im',_,_,A6,c6,by omega,by go_num,HB7,HO7,HF7,V4,D4⟩
     case measure=>simp[intOf];omega
   ·obtain rfl:i=p.files.length:=by omega
    obtain⟨wE,hwE⟩:∃ wE,wE=wr:=⟨_,rfl⟩
    subst hwE
    have hV2:=Vi.out
    rw[List.take_length] at hV2
    have HRs:=Lib.hid (yN1 (n:=1099511627776) HRt.out.1 HRt.out.2 hV2)
    clear hV2 Vi hlt hi
    have x0:=Bi.out.st.cl.1.cell 0
    have r7:wE.cell? ⟨R.r,7,none⟩=some (.bool σi.ρ.cyc):=Bi.out.st.rs.rc.cell 7
    cases hcy:σi.ρ.cyc with
    | true=>
      have HA:=Lib.hid (HBr.out.keep Bi.out.lo)
      have HWA:=Lib.hid (HW.out.trans (Bi.out.lo.mono HW.out.size))
      have HRK:=Lib.hid (show ResK rx (plP p) [] 15 from .inr (.inl ⟨HE0.out,(fun N=>by
       cases hN:rzP N (plP p).files with
       | none=>rfl
       | some r=>
         have h:=HRs.out.2 ⟨N,by rw[hN];simp⟩
         rw[hcy] at h
         cases h),rfl,rfl⟩))
      rw[hcy] at r7
      clear hcy
      go_upto_region 15 with fail
      clear x0 r7
      have y0:=(zU4 HA.out).1
      have y1:=(zU4 HA.out).2
      have zf0:=HA.out.free 0
      have zf1:=HA.out.free 1
      go_wp2
      clear y0 y1 zf0 zf1
      obtain⟨hB8,hK8⟩:=res2 HA.out (.string ⟨#[]⟩) (.slice none 0 0)
      have HR:=Lib.hid (zF0 HWA.out hK8 (Nat.le_succ _) (by decide) HRK.out)
      obtain⟨z0,z1⟩:=zU4 hB8
      refine bodyPost_ret (v:=.tuple #[.agg #[.string ⟨#[]⟩,.slice none 0 0],.int .i64 15]) ?_ rfl HR.out
      simp[results,Tryz.results25,go_sem,z0,z1]
    | false=>
      obtain⟨N,hN⟩:=HRs.out.1 hcy
      rw[hcy] at r7
      have HN:=Lib.hid hN
      have hpk:=rzP_ok (R:=RxOk rx) hN (fun f hf=>by
       obtain⟨g,hg,rfl⟩:=List.mem_map.1 hf
       exact HRx.out g hg) (fun f hf=>by
       obtain⟨g,hg,rfl⟩:=List.mem_map.1 hf
       exact(zI6 (HOk.out g hg)).2)
      have HPt:=Lib.hid (show ∀ f∈fas,PatDs (RxOk rx) (plDs f.decls)∧dpDs (plDs f.decls)≤31 from fun f hf=>hpk.2 _ (List.mem_map.2 ⟨_,Di.out.mem f hf,rfl⟩))
      clear hcy hN hpk HRs
      have o1:=Oi.out.1.cell 1
      go_upto_region 17 with fail
      clear x0 r7 o1
      have HMb:=Lib.hid (show (zn (R.with_ (.func (.func 59) #[] #[.pointer (some ⟨w2.heap.size,0,none⟩),.pointer (some ⟨w2.heap.size+1,0,none⟩)])) (cloR R.r w2.heap.size (w2.heap.size+1)) σi Imi).Mut (w2.heap.size+1) from .inr (.inr (.inr (.inr (.inr rfl)))))
      have HFl:=Lib.hid Di.out.1
      go_loopw [65] (fun jv wq=>∃ j:Nat,j≤p.files.length∧jv=.int .i64 (j:Nat)∧Hid (Kp (· = w2.heap.size+1) wE wq)∧Hid (Blk wq (w2.heap.size+1) 4 #[.bool (σi.x||(fas.take j).any fun f=>decide (errF rx (plF f)≠0))])) (fun jv _=>p.files.length-(intOf jv).toNat)
      case atStart=>exact⟨0,Nat.zero_le _,rfl,Lib.hid (Kp.refl _ _),by simpa using Lib.hid Bi.out.st.cl.2⟩
      case round=>
       obtain⟨j,hj,rfl,Kj,Bj⟩:=hrel
       have hlo:Below w1.heap.size w1 wr:=Bi.out.lo.trans (Kj.out.toBelow Bi.out.lo.size fun b hb e=>by have:=Bi.out.mo _ HMb.out;omega)
       have HLo:=Lib.hid hlo
       have hac:Acc wr 0 58 4 (.slice Ao p.files.length co) fas.length (fas.flatMap encF):=zL8 Fi.out.ac Kj.out fun b hb e=>(Fi.out.ma b hb).1.1.2.1 (e▸HMb.out)
       have hiN:∀ b,Imi b→¬ b=w2.heap.size+1:=fun b hb e=>(Bi.out.st.zo.mu _ HMb.out).2 (e▸hb)
       have HiN:=Lib.hid hiN
       rw[HFl.out] at hac
       have hsl:=(zO1 zI1 hac (by decide)).2
       clear hlo hiN hac
       by_cases hlt:j < p.files.length
       ·have hlt':(j:Int) < (p.files.length:Int):=by omega
        have hjf:j < fas.length:=by rw[HFl.out];exact hlt
        have HTk:=Lib.hid (List.take_succ_eq_append_getElem hjf)
        have HM:=Lib.hid (List.getElem_mem hjf)
        obtain⟨bb,off,hA,hbW,hc⟩:=hsl.at_ hjf
        obtain⟨c0,c1,c2,c3⟩:=yL3 hc
        clear hc hsl
        generalize fas[j]=f at c0 c1 c2 c3 HTk HM
        obtain⟨fpkg,fAi,fci,fimps,fAd,fcd,fdecls,fAt,fct,ftail⟩:=f
        dsimp only at c0 c1 c2 c3
        have hba:=(Below.refl wr.heap.size wr).alloc (Nat.le_refl _) (.cells #[.string ⟨fpkg.toArray⟩,.slice fAi fimps.length fci,.slice fAd fdecls.length fcd,.slice fAt ftail.length fct] 58)
        have Kb:=Lib.hid (show Kp (· = w2.heap.size+1) wE (wr.alloc (.cells #[.string ⟨fpkg.toArray⟩,.slice fAi fimps.length fci,.slice fAd fdecls.length fcd,.slice fAt ftail.length fct] 58)) from Kj.out.alloc _)
        have B5:=Lib.hid (Blk.new wr 58 #[.string ⟨fpkg.toArray⟩,.slice fAi fimps.length fci,.slice fAd fdecls.length fcd,.slice fAt ftail.length fct])
        have Bb:=Lib.hid (Bj.out.keep hba)
        have cC:=Lib.hid (yQ4 rx ⟨fpkg,fAi,fci,fimps,fAd,fcd,fdecls,fAt,fct,ftail⟩ (wr.alloc (.cells #[.string ⟨fpkg.toArray⟩,.slice fAi fimps.length fci,.slice fAd fdecls.length fcd,.slice fAt ftail.length fct] 58)) ((Fi.out.ok _ HM.out).kept Kb.out HiN.out (fun _ h=>h)).okF (HPt.out _ HM.out).1 (HGl.out.keep (HLo.out.trans (hba.mono HLo.out.size))) (Nat.le_trans (HPt.out _ HM.out).2 (by decide)))
        go_upto_region 19 with fail
        clear c0 c1 c2 c3 hbW hba hA
        generalize wr.alloc (.cells #[.string ⟨fpkg.toArray⟩,.slice fAi fimps.length fci,.slice fAd fdecls.length fcd,.slice fAt ftail.length fct] 58)=wb at Kb B5 Bb cC ⊢
        have HFq:=Lib.hid (show (σi.x||(fas.take (j+1)).any fun f=>decide (errF rx (plF f)≠0))=((σi.x||(fas.take j).any fun f=>decide (errF rx (plF f)≠0))||decide (errF rx (plF ⟨fpkg,fAi,fci,fimps,fAd,fcd,fdecls,fAt,fct,ftail⟩)≠0)) from by rw[HTk.out,List.any_append,List.any_cons,List.any_nil,Bool.or_false,Bool.or_assoc])
        generalize (σi.x||(fas.take j).any fun f=>decide (errF rx (plF f)≠0))=fl at HFq Bb Bj
        have t0:=Bb.out.cell 0
        have u0:=Bb.out.free 0
        cases fl with
        | true=>
          have hk6:Kp (· = w2.heap.size+1) wb (wb.setCell ⟨w2.heap.size+1,0,none⟩ (.bool true)):=(Kp.refl (· = w2.heap.size+1) wb).setCell (p:=⟨w2.heap.size+1,0,none⟩) rfl _
          have K6:=Lib.hid (Kb.out.trans hk6)
          have B6:=Lib.hid (show Blk (wb.setCell ⟨w2.heap.size+1,0,none⟩ (.bool true)) (w2.heap.size+1) 4 #[.bool (σi.x||(fas.take (j+1)).any fun f=>decide (errF rx (plF f)≠0))] from by rw[HFq.out];simpa using Bb.out.set_ 0 (.bool true))
          clear hk6
          go_wp2
          go_roundw
          case rel=>exact⟨j+1,by omega,by go_num,K6,B6⟩
          case measure=>simp[intOf];omega
        | false=>
          obtain⟨b0,b1,b2,b3⟩:=zC4 B5.out
          go_wp2_with fail
          refine cC.out.mono ?_
          rintro e w5 ⟨rfl,hb5⟩
          obtain⟨ee,hee⟩:∃ ee,ee=errF rx (plF ⟨fpkg,fAi,fci,fimps,fAd,fcd,fdecls,fAt,fct,ftail⟩):=⟨_,rfl⟩
          have hfq:=HFq.out
          rw[←hee] at hfq
          rw[←hee]
          have Bc:=Lib.hid (Bb.out.keep hb5)
          have K5:=Lib.hid (Kb.out.trans (Kp.ofBelow hb5 _))
          have HFq:=Lib.hid hfq
          clear hfq hee hb5 b0 b1 b2 b3 t0 u0 cC
          have t0:=Bc.out.cell 0
          have u0:=Bc.out.free 0
          by_cases he0:ee=0
          ·subst he0
           have hk6:Kp (· = w2.heap.size+1) w5 (w5.setCell ⟨w2.heap.size+1,0,none⟩ (.bool false)):=(Kp.refl (· = w2.heap.size+1) w5).setCell (p:=⟨w2.heap.size+1,0,none⟩) rfl _
           have K6:=Lib.hid (K5.out.trans hk6)
           have B6:=Lib.hid (show Blk (w5.setCell ⟨w2.heap.size+1,0,none⟩ (.bool false)) (w2.heap.size+1) 4 #[.bool (σi.x||(fas.take (j+1)).any fun f=>decide (errF rx (plF f)≠0))] from by rw[HFq.out];simpa using Bc.out.set_ 0 (.bool false))
           clear hk6
           go_wp2
           go_roundw
           case rel=>exact⟨j+1,by omega,by go_num,K6,B6⟩
           case measure=>simp[intOf];omega
          ·have hdd:(false||decide (ee≠0))=(ee != 0):=by simp[he0]
           have hk6:Kp (· = w2.heap.size+1) w5 (w5.setCell ⟨w2.heap.size+1,0,none⟩ (.bool (ee != 0))):=(Kp.refl (· = w2.heap.size+1) w5).setCell (p:=⟨w2.heap.size+1,0,none⟩) rfl _
           have K6:=Lib.hid (K5.out.trans hk6)
           have B6:=Lib.hid (show Blk (w5.setCell ⟨w2.heap.size+1,0,none⟩ (.bool (ee != 0))) (w2.heap.size+1) 4 #[.bool (σi.x||(fas.take (j+1)).any fun f=>decide (errF rx (plF f)≠0))] from by rw[HFq.out,hdd];simpa using Bc.out.set_ 0 (.bool (ee != 0)))
           clear hk6
           go_wp2
           go_roundw
           case rel=>exact⟨j+1,by omega,by go_num,K6,B6⟩
           case measure=>simp[intOf];omega
       ·obtain rfl:j=p.files.length:=by omega
        have hfl:fas.take p.files.length=fas:=by rw[←HFl.out,List.take_length]
        have hBj:=Bj.out
        rw[hfl] at hBj
        have HA:=Lib.hid (HBr.out.keep HLo.out)
        have HWA:=Lib.hid (HW.out.trans (HLo.out.mono HW.out.size))
        have HOu:=Lib.hid Di.out.out
        have HRb:=Lib.hid (show ∀ b,Imi b→¬ b=w.heap.size+1 from fun b hb e=>by
         have h1:=HZ1.out
         rcases Bi.out.nb b hb with h | h <;> omega)
        clear hfl hsl hlt hj
        cases hfl2:(σi.x||fas.any fun f=>decide (errF rx (plF f)≠0)) with
        | true=>
          rw[hfl2] at hBj
          have t0:=hBj.cell 0
          have HRK:=Lib.hid (show ResK rx (plP p) [] 9 from .inr (.inr ⟨HE0.out,N,rs.map plDs,σi.x,HN.out,.inl ⟨by
           rw[Bool.or_eq_true] at hfl2
           rcases hfl2 with h | h
           ·exact .inl h
           ·obtain⟨f,hf,h2⟩:=List.any_eq_true.1 h
            exact .inr ⟨plF f,by rw[←HOu.out];exact List.mem_map.2 ⟨f,hf,rfl⟩,of_decide_eq_true h2⟩,rfl,rfl⟩⟩))
          clear hfl2 hBj
          go_upto_region 22 with fail
          clear t0
          have y0:=(zU4 HA.out).1
          have y1:=(zU4 HA.out).2
          have zf0:=HA.out.free 0
          have zf1:=HA.out.free 1
          go_wp2
          clear y0 y1 zf0 zf1
          obtain⟨hB8,hK8⟩:=res2 HA.out (.string ⟨#[]⟩) (.slice none 0 0)
          have HR:=Lib.hid (zF0 HWA.out hK8 (Nat.le_succ _) (by decide) HRK.out)
          obtain⟨z0,z1⟩:=zU4 hB8
          refine bodyPost_ret (v:=.tuple #[.agg #[.string ⟨#[]⟩,.slice none 0 0],.int .i64 9]) ?_ rfl HR.out
          simp[results,Tryz.results25,go_sem,z0,z1]
        | false=>
          rw[hfl2] at hBj
          have t0:=hBj.cell 0
          have HFq:=Lib.hid hfl2
          have hO:=Kj.out.blk Oi.out.1 (fun e=>Oi.out.2.1.2.1 (e▸HMb.out))
          obtain⟨o0,o1⟩:=zU4 hO
          have y0:=(zU4 HA.out).1
          have y1:=(zU4 HA.out).2
          have zf0:=HA.out.free 0
          have zf1:=HA.out.free 1
          clear hfl2 hBj hO
          go_wp2
          clear y0 y1 zf0 zf1 o0 o1 t0
          obtain⟨hB8,hK8⟩:=res2 HA.out (.string ⟨p.path.toArray⟩) (.slice Ao p.files.length co)
          have HR:=Lib.hid (show yG2 rx p w (.returned (.tuple #[.agg #[.string ⟨p.path.toArray⟩,.slice Ao p.files.length co],.int .i64 0])) _ from by
           have hkN:Kp (fun b=>b=w2.heap.size+1∨b=w.heap.size+1) wE _:=(Kj.out.mono fun b h=>Or.inl h).trans (hK8.mono fun b h=>Or.inr h)
           have hiN:∀ b,Imi b→¬ (b=w2.heap.size+1∨b=w.heap.size+1):=fun b hb e=>e.elim (HiN.out b hb) (HRb.out b hb)
           have hfi:∀ f∈fas,FI Imi _ f:=fun f hf=>(Fi.out.ok f hf).kept hkN hiN (fun _ h=>h)
           have hac:=zL8 Fi.out.ac hkN fun b hb e=>by
            rcases e with e | e
            ·exact(Fi.out.ma b hb).1.1.2.1 (e▸HMb.out)
            ·have h1:=(Fi.out.ma b hb).1.2
             have h2:=HZ1.out
             omega
           have hac2:=hac
           rw[HFl.out] at hac2
           have hsl:=(zO1 zI1 hac2 (by decide)).2
           refine⟨HWA.out.trans (hK8.toBelow HWA.out.size fun b hb e=>by omega),⟨p.path,Ao,co,fas⟩,0,?_,⟨⟨HP.out.ok.path,⟨hsl,?_⟩,fun f hf=>(hfi f hf).okF⟩,?_,fun f hf=>⟨(hfi f hf).im.2.1,(hfi f hf).ds.2.1,okI_sz.2.2.2 _ (hfi f hf).ok,(hfi f hf).tl.2.1⟩,fun f hf=>Nat.le_trans (HPt.out f hf).2 (by decide)⟩,.inr (.inr ⟨HE0.out,N,rs.map plDs,σi.x,HN.out,.inr ⟨?_,?_,?_,rfl⟩⟩),fun _=>rfl,fun h=>absurd rfl h⟩
           ·show _=Ending.returned (.tuple #[.agg #[.string ⟨p.path.toArray⟩,.slice Ao fas.length co],.int .i64 0])
            rw[HFl.out]
           ·show fas.length≤_
            rw[HFl.out]
            omega
           ·show fas.length≤_
            rw[HFl.out]
            exact hnf
           ·exact(Bool.or_eq_false_iff.1 HFq.out).1
           ·intro g hg
            rw[←HOu.out] at hg
            obtain⟨f,hf,rfl⟩:=List.mem_map.1 hg
            have h1:=(List.any_eq_false.1 (Bool.or_eq_false_iff.1 HFq.out).2) f hf
            simpa using h1
           ·exact HOu.out)
          obtain⟨z0,z1⟩:=zU4 hB8
          refine bodyPost_ret (v:=.tuple #[.agg #[.string ⟨p.path.toArray⟩,.slice Ao p.files.length co],.int .i64 0]) ?_ rfl HR.out
          simp[results,Tryz.results25,go_sem,z0,z1]
end Go.Proofs.YtdgehhgjgifikaaGreatDoor
