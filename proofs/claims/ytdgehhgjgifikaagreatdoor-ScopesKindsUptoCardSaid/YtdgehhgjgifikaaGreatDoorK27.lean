/- What the claim needs of:EB QH QI EU. -/
import Derived.Test.YtdgehhgjgifikaaGreatDoorK26
import Derived.Laws.EntriesVeiled
import Derived.Test.YtdgehhgjgifikaaGreatDoorK4
import Derived.Test.YtdgehhgjgifikaaGreatDoorK24
import Derived.Test.YtdgehhgjgifikaaGreatDoorK11
import Derived.Shelf.SlSortCmp.NoneTotal
namespace Go.Proofs.YtdgehhgjgifikaaGreatDoor
open Go.RowKit Go.Sort Go.Shelf
theorem elFile:ElT Tryz.prog 22 58 4 88:=ElT.mk_ (z:=.agg #[.string ByteArray.empty,.slice none 0 0,.slice none 0 0,.slice none 0 0]) Tryz.underlying22 qF qF (by decide)
structure BnR {X:Type}(w0 w1:World)(p:PA)(s:Nat)(R:RF)(C:Clo X)(env:List ScA)(bo:Nat)(v:Value)(fas:List FA)(gs:List (Nat × TypeId × Array Value))(σ:GS X)(Im:Nat→Prop)(wx:World):Prop where
 b:BtwR w0 w1 p s R C env σ Im wx
 f:FsR R C w1 bo v fas σ Im wx
 g:∀ q∈gs,Blk wx q.1 q.2.1 q.2.2∧MineR R C σ Im w1 wx q.1∧v.ownBlock≠some q.1
section
variable {X:Type}{w0 w1 wx wy:World}{p:PA}{s s' bo:Nat}{R:RF}{C:Clo X}{env:List ScA}{v:Value}{fas:List FA}{gs:List (Nat × TypeId × Array Value)}{σ σ':GS X}{Im Im':Nat→Prop}
theorem BnR.below (h:BnR w0 w1 p s R C env bo v fas gs σ Im wx)(hb:Below wx.heap.size wx wy):BnR w0 w1 p s R C env bo v fas gs σ Im wy:=
 ⟨h.b.below hb,h.f.below hb,fun q hq=>⟨(h.g q hq).1.keep hb,(h.g q hq).2.1.up hb.size,(h.g q hq).2.2⟩⟩
theorem BnR.alloc (h:BnR w0 w1 p s R C env bo v fas gs σ Im wx)(ty:TypeId)(cs:Array Value):BnR w0 w1 p s R C env bo v fas ((wx.heap.size,ty,cs) ::gs) σ Im (wx.alloc (.cells cs ty)):=by
 have hba:=(Below.refl wx.heap.size wx).alloc qJ (.cells cs ty);have h2:=h.below hba;refine⟨h2.b,h2.f,fun q hq=>?_⟩;rcases List.mem_cons.1 hq with rfl | hq
 ·exact⟨Blk.new wx ty cs,h.b.new_ qJ (by simp),fun e=>by have:=(h.f.ma _ e).1.1.1;omega⟩
 ·exact h2.g q hq
theorem BnR.fresh {α:Type}{k:Nat}{enc:α→List Value}{A:Option Addr}{xs:List α}(h:BnR w0 w1 p s R C env bo v fas gs σ Im wx)(hS:SlN wy wy.heap.size k enc A xs)(hl:xs.length≤1048576)(hb:Below wx.heap.size wx wy)(hn:∀ a,xs≠[]→A=some a→wx.heap.size≤a.block) :
  BnR w0 w1 p s R C env bo v fas gs σ (fun q=>Im q∨(xs≠[]∧∃ ad,A=some ad∧ad.block=q)) wy∧SlI (fun q=>Im q∨(xs≠[]∧∃ ad,A=some ad∧ad.block=q)) wy k enc A xs:=by
 have hF:=yQ5 h.b.st.zo hS.1 hn;have h2:=h.below hb;refine⟨⟨h2.b.freeze fun q hq=>⟨(hF q hq).1,Nat.le_trans h.b.lo.size (hF q hq).2⟩,h2.f.freeze fun b hb hq=>by have h3:=(hF b hq).2;have h4:=(h.f.ma b hb).1.1.1;omega,fun q hq=>⟨(h2.g q hq).1,(h2.g q hq).2.1.freeze fun hq2=>by have h3:=(hF q.1 hq2).2;have h4:=(h.g q hq).2.1.1.1;omega,(h2.g q hq).2.2⟩⟩,fresh_sl hS.1 hl⟩
theorem BnR.write {N:Nat→Prop}(h:BnR w0 w1 p s R C env bo v fas gs σ Im wx)(hk:Kp N wx wy)(hN:∀ b,N b→MineR R C σ Im w1 wx b∧v.ownBlock≠some b)(hg:∀ q∈gs,¬ N q.1):BnR w0 w1 p s R C env bo v fas gs σ Im wy:=
 ⟨h.b.write hk fun b hb=>⟨(hN b hb).1.2,(hN b hb).1.1.2⟩,h.f.write hk (fun b hb hn=>(hN b hn).2 hb) (fun b hb hn=>(hN b hn).1.1.2.2 hb),fun q hq=>⟨hk.blk (h.g q hq).1 (hg q hq),(h.g q hq).2.1.up hk.size,(h.g q hq).2.2⟩⟩
theorem BnR.set_ {g i:Nat}{ty:TypeId}{cs:Array Value}(h:BnR w0 w1 p s R C env bo v fas ((g,ty,cs) ::gs) σ Im wx)(u:Value)(hd:∀ q∈gs,q.1≠g):BnR w0 w1 p s R C env bo v fas ((g,ty,cs.setIfInBounds i u) ::gs) σ Im (wx.setCell ⟨g,i,none⟩ u)∧Kp (· = g) wx (wx.setCell ⟨g,i,none⟩ u)∧∀ b,Im b→¬ b=g:=by
 have hk:Kp (· = g) wx (wx.setCell ⟨g,i,none⟩ u):=(Kp.refl (· = g) wx).setCell (p:=⟨g,i,none⟩) rfl u;have hg:=h.g _ (List.mem_cons_self ..);have h0:BnR w0 w1 p s R C env bo v fas gs σ Im wx:=⟨h.b,h.f,fun q hq=>h.g q (List.mem_cons_of_mem _ hq)⟩;have h2:=h0.write hk (fun b hb=>by subst hb;exact hg.2) hd;refine⟨⟨h2.b,h2.f,fun q hq=>?_⟩,hk,fun b hb e=>hg.2.1.1.2.2 (e▸hb)⟩;rcases List.mem_cons.1 hq with rfl | hq
 ·exact⟨hg.1.set_ i u,hg.2.1.up hk.size,hg.2.2⟩
 ·exact h2.g q hq
theorem BnR.cast {gs':List (Nat × TypeId × Array Value)}(h:BnR w0 w1 p s R C env bo v fas gs σ Im wx)(e:gs'=gs):BnR w0 w1 p s R C env bo v fas gs' σ Im wx:=e▸h
theorem BnR.store4 {g:Nat}{ty:TypeId}{z0 z1 z2 z3:Value}(h:BnR w0 w1 p s R C env bo v fas ((g,ty,#[z0,z1,z2,z3]) ::gs) σ Im wx)(v0 v1 v2 v3:Value)(hd:∀ q∈gs,q.1≠g) :
  BnR w0 w1 p s R C env bo v fas ((g,ty,#[v0,v1,v2,v3]) ::gs) σ Im ((((wx.setCell ⟨g,0,none⟩ v0).setCell ⟨g,1,none⟩ v1).setCell ⟨g,2,none⟩ v2).setCell ⟨g,3,none⟩ v3)∧Kp (· = g) wx ((((wx.setCell ⟨g,0,none⟩ v0).setCell ⟨g,1,none⟩ v1).setCell ⟨g,2,none⟩ v2).setCell ⟨g,3,none⟩ v3)∧∀ b,Im b→¬ b=g:=by
 obtain⟨h0,k0,hi⟩:=h.set_ (i:=0) v0 hd;obtain⟨h1,k1,_⟩:=h0.set_ (i:=1) v1 hd;obtain⟨h2,k2,_⟩:=h1.set_ (i:=2) v2 hd;obtain⟨h3,k3,_⟩:=h2.set_ (i:=3) v3 hd;exact⟨h3.cast (by simp),((k0.trans k1).trans k2).trans k3,hi⟩
theorem BnR.step (h:BnR w0 w1 p s R C env bo v fas gs σ Im wx)(hS:St R C 1099511627776 s' σ' Im' wy)(hQ:Sp (zn R C σ Im) wx (zn R C σ' Im') wy)(hG:Gr wx σ σ'):BnR w0 w1 p s' R C env bo v fas gs σ' Im' wy:=
 ⟨h.b.step hS hQ hG,h.f.step h.b.st.zo hQ,fun q hq=>⟨hQ.kp.blk (h.g q hq).1 (h.g q hq).2.1.1.2.1,(h.g q hq).2.1.step hQ,(h.g q hq).2.2⟩⟩
end
def zI4 (W:World)(t:TypeId)(A:Option Addr):Prop:=∀ a,A=some a→∃ cs,Blk W a.block t cs
theorem yL0 {w:World}{base e size n c:Nat}{A:Option Addr}{xs:List Value}(h:w.ownsRow base e size (.slice A n c) n xs):zI4 w e A:=by
 intro a ha;rcases h.2 with ⟨h,_⟩ | ⟨g,cap,cur,h,_,hc,_⟩
 ·injection h with h
  rw[h] at ha;cases ha
 ·injection h with h
  rw[h] at ha;injection ha with ha
  subst ha;exact⟨cur,hc⟩
def NewSl {α:Type}(z k:Nat)(enc:α→List Value)(ty:TypeId)(A:Option Addr)(xs:List α)(W:World):Prop:=SlN W W.heap.size k enc A xs∧(xs=[]∨zI4 W ty A)∧∀ a,xs≠[]→A=some a→z≤a.block
theorem NewSl.below {α:Type}{z k:Nat}{enc:α→List Value}{ty:TypeId}{A:Option Addr}{xs:List α}{W W':World}(h:NewSl z k enc ty A xs W)(hb:Below W.heap.size W W'):NewSl z k enc ty A xs W':=
 ⟨(h.1.below hb).more hb.size,h.2.1.imp id fun h a ha=>by
   obtain⟨cs,hc⟩:=h a ha;exact⟨cs,hc.keep hb⟩,h.2.2⟩
theorem NewSl.low {α:Type}{z z' k:Nat}{enc:α→List Value}{ty:TypeId}{A:Option Addr}{xs:List α}{W:World}(h:NewSl z k enc ty A xs W)(hz:z'≤z):NewSl z' k enc ty A xs W:=⟨h.1,h.2.1,fun a h1 h2=>Nat.le_trans hz (h.2.2 a h1 h2)⟩
set_option maxRecDepth 100000 in
theorem yA0 (A:Option Addr)(c:Nat)(l:List Imp)(w:World)(hA:SlN w w.heap.size 3 encI A l):Calls Tryz.prog 61 #[.slice A l.length c] w fun e w'=>∃ A' c',e=.returned (.slice A' l.length c')∧NewSl w.heap.size 3 encI 60 A' l w'∧Below w.heap.size w w':=by
 by_cases hnil:l=[]
 ·subst hnil;refine(yB9 A c [] w hA).mono ?_;rintro e w' ⟨A',c',rfl,h1,h2,_⟩;exact⟨A',c',rfl,⟨h1,.inl rfl,fun a h=>absurd rfl h⟩,h2⟩
 ·obtain⟨hA,hl⟩:=hA;rcases hA with h | ⟨b,off,rfl,hb,hc⟩
  ·exact absurd h hnil
  ·obtain⟨_,h0,i,z,e1,e2,e3,e4,e5⟩:=xV9;have hsr:=(Sl.src (.inr ⟨b,off,rfl,hb,hc⟩:Sl w w.heap.size 3 encI (some ⟨b,off,none⟩) l) zN2);have hpos:0 < l.length:=Nat.pos_of_ne_zero fun e=>hnil (List.eq_nil_of_length_eq_zero e);refine(AnyE.slices_Clone Tryz.cloneI i z 3 40 e1 e2 e3 e4 e5 h0 Tryz.sizeOf60 b off l.length c (l.flatMap encI) w (zH2 zN2 l) (by simp only[maxLen];omega) qG (fun j u hu=>?_) (yF0 l)).mono ?_
   ·exact xJ
   ·rintro e w' ⟨v,rfl,h1,h2,h3⟩;have hA:Acc w' w.heap.size 60 3 v l.length (l.flatMap encI):=.inl h1;obtain⟨A',c',rfl⟩:=hA.shape;obtain⟨_,h4⟩:=zG1 zN2 hA (by decide);exact⟨A',c',rfl,⟨⟨h4,hl⟩,.inr (yL0 h1),fun a _ ha=>by subst ha;exact(h1.lt a.block rfl).1⟩,h3⟩
theorem yA1 (A:Option Addr)(c:Nat)(l:List Tx)(w:World)(hA:SlN w w.heap.size 1 encS A l):Calls Tryz.prog 62 #[.slice A l.length c] w fun e w'=>∃ A' c',e=.returned (.slice A' l.length c')∧NewSl w.heap.size 1 encS 9 A' l w'∧Below w.heap.size w w':=by
 by_cases hnil:l=[]
 ·subst hnil;refine(zK1 A c [] w hA).mono ?_;rintro e w' ⟨A',c',rfl,h1,h2,_⟩;exact⟨A',c',rfl,⟨h1,.inl rfl,fun a h=>absurd rfl h⟩,h2⟩
 ·obtain⟨hS,hl⟩:=hA;rcases hS with h | ⟨b,off,rfl,hb,hc⟩
  ·exact absurd h hnil
  ·refine(Tryz.slices_Clone_string b off l.length c (l.map fun s=>⟨s.toArray⟩) w (by simp) qG (fun j hj=>?_)).mono ?_
   ·exact xC
   ·rintro e w' ⟨v',rfl,h1,_,hb⟩;rw[List.take_of_length_le (by simp)] at h1;have e1:(l.map fun s=>(⟨s.toArray⟩:ByteArray)).map Value.string=strs l:=by simp[strs,Function.comp_def]
    rw[e1] at h1;obtain⟨A',c',rfl,h2,h3⟩:=yT5 h1;exact⟨A',c',rfl,⟨⟨h2,hl⟩,.inr (yL0 h1),fun a _ ha=>h3 a ha⟩,hb⟩
theorem BnR.made {X:Type}{w0 w1 wx wf:World}{p:PA}{s bo:Nat}{R:RF}{C:Clo X}{env:List ScA}{v:Value}{fas:List FA}{gs:List (Nat × TypeId × Array Value)}{σ:GS X}{Im:Nat→Prop}{A7 A8:Option Addr}{fimps:List Imp}{ftail:List Tx}{g:Nat}{cs:Array Value}
  (h:BnR w0 w1 p s R C env bo v fas gs σ Im wx)(hb:Below wx.heap.size wx wf)(h7:NewSl wx.heap.size 3 encI 60 A7 fimps wf)(h8:NewSl wx.heap.size 1 encS 9 A8 ftail wf)(hl7:fimps.length≤1048576)(hl8:ftail.length≤1048576)(hG:Blk wf g 58 cs)(hg:wx.heap.size≤g) :
  ∃ Im9:Nat→Prop,BnR w0 w1 p s R C env bo v fas ((g,58,cs) ::gs) σ Im9 wf∧SlI Im9 wf 3 encI A7 fimps∧SlI Im9 wf 1 encS A8 ftail∧∀ q∈gs,q.1≠g:=by
 have k7:=yQ5 h.b.st.zo h7.1.1 h7.2.2;have k8:=yQ5 h.b.st.zo h8.1.1 h8.2.2;have hne7:¬ (fimps≠[]∧∃ ad,A7=some ad∧ad.block=g):=fun⟨hn,ad,h1,h2⟩=>by
  rcases h7.2.1 with h3 | h3
  ·exact hn h3
  ·exact xX
 have hne8:¬ (ftail≠[]∧∃ ad,A8=some ad∧ad.block=g):=fun⟨hn,ad,h1,h2⟩=>by
  rcases h8.2.1 with h3 | h3
  ·exact hn h3
  ·exact xX
 have hd:∀ q∈gs,q.1≠g:=fun q hq e=>by have:=(h.g q hq).2.1.1.1;omega
 have hB:=h.below hb;have hF:∀ q,((fimps≠[]∧∃ ad,A7=some ad∧ad.block=q)∨(ftail≠[]∧∃ ad,A8=some ad∧ad.block=q))→Mine (zn R C σ Im) wf q∧wx.heap.size≤q:=fun q hq=>hq.elim (k7 q) (k8 q);refine⟨fun b=>Im b∨((fimps≠[]∧∃ ad,A7=some ad∧ad.block=b)∨(ftail≠[]∧∃ ad,A8=some ad∧ad.block=b)),⟨hB.b.freeze fun q hq=>⟨(hF q hq).1,Nat.le_trans h.b.lo.size (hF q hq).2⟩,hB.f.freeze fun b hb hq=>by have h1:=(hF b hq).2;have h2:=(h.f.ma b hb).1.1.1;omega,fun q hq=>?_⟩,?_,?_,hd⟩
 ·rcases List.mem_cons.1 hq with rfl | hq
  ·exact⟨hG,(show MineR R C σ Im w1 wf g from⟨h.b.st.zo.new_ hg hG.lt,Nat.le_trans h.b.lo.size hg⟩).freeze fun hq=>hq.elim hne7 hne8,fun e=>by have:=(h.f.ma _ e).1.1.1;dsimp only at this;omega⟩
  ·exact⟨(hB.g q hq).1,(hB.g q hq).2.1.freeze fun hq2=>by have h1:=(hF q.1 hq2).2;have h2:=(h.g q hq).2.1.1.1;omega,(hB.g q hq).2.2⟩
 ·refine⟨h7.1.1,hl7,?_⟩;by_cases hnt:fimps=[]
  ·exact .inl hnt
  ·exact .inr fun ad had=>.inr (.inl ⟨hnt,ad,had,rfl⟩)
 ·refine⟨h8.1.1,hl8,?_⟩;by_cases hnt:ftail=[]
  ·exact .inl hnt
  ·exact .inr fun ad had=>.inr (.inr ⟨hnt,ad,had,rfl⟩)
theorem zeroFile (w:World):(zeroValue 58).run Tryz.prog w=.ok (.agg #[.string ByteArray.empty,.slice none 0 0,.slice none 0 0,.slice none 0 0]) w:=Tryz.zeroValue58 w
set_option maxRecDepth 100000 in
theorem zV9 {o:Oper}{P:Program}{Q:Exit→Act→World→Prop}{K:Act→World→Prop}{W:World}{fs:List Fact}{G:Act→Prop}{aa ab ac ad ae af ag ah ai aj ak al am an ao ap aq ar au av aw ax ay az aA aB aC aD aE aF aG aH aI aJ aK aL aM aN aO aP aQ aR aS aT aU aV aW aX aY aZ a0 a1 a2 a3 a4 a5 a6 a7 a8 a9 ba bb bc bd be bf bg bh bi bj bk bl bm bn bo bp bq br bs bt bu bv bw bx bz bA bB bC bD:Value}(hG:∀ A,o.wp P A W K Q→G A)(h:o.wp P (Act.mk #[aa,ab,ac,ad,ae,af,ag,ah,ai,aj,bD,al,am,an,ao,ap,aq,ar,au,av,aw,ax,ay,az,aA,aB,aC,aD,aE,aF,aG,aH,aI,aJ,aK,aL,aM,bt,bu,bv,bw,bx,bz,bA,bB,bC,aW,aX,aY,aZ,a0,a1,a2,a3,a4,a5,a6,a7,a8,a9,ba,bb,bc,bd,be,bf,bg,bh,bi,bj,bk,bl,bm,bn,bo,bp,bq,br,bs] []) W K Q):zY0 W G [] fs (Act.put (Act.put (Act.put (Act.put (Act.put (Act.put (Act.put (Act.put (Act.put (Act.put (Act.mk #[aa,ab,ac,ad,ae,af,ag,ah,ai,aj,ak,al,am,an,ao,ap,aq,ar,au,av,aw,ax,ay,az,aA,aB,aC,aD,aE,aF,aG,aH,aI,aJ,aK,aL,aM,aN,aO,aP,aQ,aR,aS,aT,aU,aV,aW,aX,aY,aZ,a0,a1,a2,a3,a4,a5,a6,a7,a8,a9,ba,bb,bc,bd,be,bf,bg,bh,bi,bj,bk,bl,bm,bn,bo,bp,bq,br,bs] []) (some 37) bt) (some 38) bu) (some 39) bv) (some 40) bw) (some 41) bx) (some 42) bz) (some 43) bA) (some 44) bB) (some 45) bC) (some 10) bD):=
 zV2 qF hG h
theorem res9 {w:World}{g:Nat}{ty:TypeId}{z0 z1 z2 z3 z4 z5 z6 z7 z8:Value}(h:Blk w g ty #[z0,z1,z2,z3,z4,z5,z6,z7,z8])(v0 v1 v2 v3 v4 v5 v6 v7 v8:Value):Blk (((((((((w.setCell ⟨g,0,none⟩ v0).setCell ⟨g,1,none⟩ v1).setCell ⟨g,2,none⟩ v2).setCell ⟨g,3,none⟩ v3).setCell ⟨g,4,none⟩ v4).setCell ⟨g,5,none⟩ v5).setCell ⟨g,6,none⟩ v6).setCell ⟨g,7,none⟩ v7).setCell ⟨g,8,none⟩ v8) g ty #[v0,v1,v2,v3,v4,v5,v6,v7,v8]∧Kp (· = g) w (((((((((w.setCell ⟨g,0,none⟩ v0).setCell ⟨g,1,none⟩ v1).setCell ⟨g,2,none⟩ v2).setCell ⟨g,3,none⟩ v3).setCell ⟨g,4,none⟩ v4).setCell ⟨g,5,none⟩ v5).setCell ⟨g,6,none⟩ v6).setCell ⟨g,7,none⟩ v7).setCell ⟨g,8,none⟩ v8):=
 ⟨by simpa using(((((((((h.set_ 0 v0).set_ 1 v1).set_ 2 v2).set_ 3 v3).set_ 4 v4).set_ 5 v5).set_ 6 v6).set_ 7 v7).set_ 8 v8),((((((((((Kp.refl (· = g) w).setCell (p:=⟨g,0,none⟩) rfl v0).setCell (p:=⟨g,1,none⟩) rfl v1).setCell (p:=⟨g,2,none⟩) rfl v2).setCell (p:=⟨g,3,none⟩) rfl v3).setCell (p:=⟨g,4,none⟩) rfl v4).setCell (p:=⟨g,5,none⟩) rfl v5).setCell (p:=⟨g,6,none⟩) rfl v6).setCell (p:=⟨g,7,none⟩) rfl v7).setCell (p:=⟨g,8,none⟩) rfl v8)⟩
theorem res11 {w:World}{g:Nat}{ty:TypeId}{z0 z1 z2 z3 z4 z5 z6 z7 z8 z9 z10:Value}(h:Blk w g ty #[z0,z1,z2,z3,z4,z5,z6,z7,z8,z9,z10])(v0 v1 v2 v3 v4 v5 v6 v7 v8 v9 v10:Value):Blk (((((((((((w.setCell ⟨g,0,none⟩ v0).setCell ⟨g,1,none⟩ v1).setCell ⟨g,2,none⟩ v2).setCell ⟨g,3,none⟩ v3).setCell ⟨g,4,none⟩ v4).setCell ⟨g,5,none⟩ v5).setCell ⟨g,6,none⟩ v6).setCell ⟨g,7,none⟩ v7).setCell ⟨g,8,none⟩ v8).setCell ⟨g,9,none⟩ v9).setCell ⟨g,10,none⟩ v10) g ty #[v0,v1,v2,v3,v4,v5,v6,v7,v8,v9,v10]∧Kp (· = g) w (((((((((((w.setCell ⟨g,0,none⟩ v0).setCell ⟨g,1,none⟩ v1).setCell ⟨g,2,none⟩ v2).setCell ⟨g,3,none⟩ v3).setCell ⟨g,4,none⟩ v4).setCell ⟨g,5,none⟩ v5).setCell ⟨g,6,none⟩ v6).setCell ⟨g,7,none⟩ v7).setCell ⟨g,8,none⟩ v8).setCell ⟨g,9,none⟩ v9).setCell ⟨g,10,none⟩ v10):=
 ⟨by simpa using(((((((((((h.set_ 0 v0).set_ 1 v1).set_ 2 v2).set_ 3 v3).set_ 4 v4).set_ 5 v5).set_ 6 v6).set_ 7 v7).set_ 8 v8).set_ 9 v9).set_ 10 v10),((((((((((((Kp.refl (· = g) w).setCell (p:=⟨g,0,none⟩) rfl v0).setCell (p:=⟨g,1,none⟩) rfl v1).setCell (p:=⟨g,2,none⟩) rfl v2).setCell (p:=⟨g,3,none⟩) rfl v3).setCell (p:=⟨g,4,none⟩) rfl v4).setCell (p:=⟨g,5,none⟩) rfl v5).setCell (p:=⟨g,6,none⟩) rfl v6).setCell (p:=⟨g,7,none⟩) rfl v7).setCell (p:=⟨g,8,none⟩) rfl v8).setCell (p:=⟨g,9,none⟩) rfl v9).setCell (p:=⟨g,10,none⟩) rfl v10)⟩
def nmE (s:Tx)(pos:Int):EA:=.mk 10 s 0 [] [] none 0 [] none 0 [] none 0 [] pos
def numE (n:Int):EA:=.mk 3 [] n [] [] none 0 [] none 0 [] none 0 [] 0
def letD (s:Tx)(A:Option Addr)(x:EA):DA:=.mk 4 0 s [] [] A 1 [x] none 0 [] none 0 [] none 0 [] [] 0
def fldD (s:Tx)(A:Option Addr)(x:EA):DA:=.mk 1 1 s [] [] A 1 [x] none 0 [] none 0 [] none 0 [] [] 0
theorem zM6 {w:World}{B:Nat}{s:Tx}{pos:Int}(h:s.length≤maxLen):OkA w B (nmE s pos):=⟨⟨h,Nat.zero_le _,Nat.zero_le _⟩,⟨.inl rfl,Nat.zero_le _⟩,trivial,⟨.inl rfl,Nat.zero_le _⟩,trivial,⟨.inl rfl,Nat.zero_le _⟩⟩
theorem zI5 {w:World}{B:Nat}{n:Int}:OkA w B (numE n):=⟨⟨Nat.zero_le _,Nat.zero_le _,Nat.zero_le _⟩,⟨.inl rfl,Nat.zero_le _⟩,trivial,⟨.inl rfl,Nat.zero_le _⟩,trivial,⟨.inl rfl,Nat.zero_le _⟩⟩
theorem yF1 {w:World}{g:Nat}{l:List EA}{cs:Array Value}(h:Blk w g 67 cs)(e:cs.toList=l.flatMap encE)(hl:l.length≤1099511627776):SlN w w.heap.size 9 encE (some ⟨g,0,none⟩) l:=⟨h.sl zN0 l e,hl⟩
set_option maxRecDepth 100000 in
set_option maxHeartbeats 4000000 in
theorem name_any (s:Tx)(pos:Int)(w:World):Calls Tryz.prog 33 #[.string ⟨s.toArray⟩,.int .i64 pos] w fun e w'=>e=.returned (.agg (encE (nmE s pos)).toArray)∧Below w.heap.size w w':=by
 have hB1:=(Below.refl w.heap.size w).alloc qJ (.cells #[.int .i64 0,.string ⟨#[]⟩,.int .i64 0,.string ⟨#[]⟩,.string ⟨#[]⟩,.slice none 0 0,.slice none 0 0,.slice none 0 0,.int .i64 0] 67);have Z1:=qK (Blk.new w 67 #[.int .i64 0,.string ⟨#[]⟩,.int .i64 0,.string ⟨#[]⟩,.string ⟨#[]⟩,.slice none 0 0,.slice none 0 0,.slice none 0 0,.int .i64 0]);have HB:=qK hB1;clear hB1;go_enter Tryz.func33,Tryz.ntmps33
 go_upto_region 1 with fail
 generalize w.alloc (.cells #[.int .i64 0,.string ⟨#[]⟩,.int .i64 0,.string ⟨#[]⟩,.string ⟨#[]⟩,.slice none 0 0,.slice none 0 0,.slice none 0 0,.int .i64 0] 67)=w1 at Z1 HB ⊢;obtain⟨y0,y1,y2,y3,y4,y5,y6,y7,y8⟩:=zZ6 Z1.out;obtain⟨zf0,zf1,zf2,zf3,zf4,zf5,zf6,zf7,zf8⟩:=zF8 Z1.out;go_wp2;clear y0 zf0 y1 zf1 y2 zf2 y3 zf3 y4 zf4 y5 zf5 y6 zf6 y7 zf7 y8 zf8;obtain⟨hB8,hK8⟩:=res9 Z1.out (.int .i64 10) (.string ⟨s.toArray⟩) (.int .i64 0) (.string ⟨#[]⟩) (.string ⟨#[]⟩) (.slice none 0 0) (.slice none 0 0) (.slice none 0 0) (.int .i64 pos);have HR:=qK (HB.out.trans (hK8.toBelow HB.out.size fun b hb e=>by omega));obtain⟨z0,z1,z2,z3,z4,z5,z6,z7,z8⟩:=zZ6 hB8;refine bodyPost_ret (v:=.agg #[.int .i64 10,.string ⟨s.toArray⟩,.int .i64 0,.string ⟨#[]⟩,.string ⟨#[]⟩,.slice none 0 0,.slice none 0 0,.slice none 0 0,.int .i64 pos]) ?_ rfl ⟨rfl,HR.out⟩;simp[results,Tryz.results33,go_sem,z0,z1,z2,z3,z4,z5,z6,z7,z8]
set_option maxRecDepth 100000 in
set_option maxHeartbeats 4000000 in
theorem yA2 (n:Int)(hn:-900000000000000 < n*10000∧n*10000 < 900000000000000)(w:World):Calls Tryz.prog 32 #[.int .i64 n] w fun e w'=>e=.returned (.agg (encE (numE (n*10000))).toArray)∧Below w.heap.size w w':=by
 have hB1:=(Below.refl w.heap.size w).alloc qJ (.cells #[.int .i64 0,.string ⟨#[]⟩,.int .i64 0,.string ⟨#[]⟩,.string ⟨#[]⟩,.slice none 0 0,.slice none 0 0,.slice none 0 0,.int .i64 0] 67);have Z1:=qK (Blk.new w 67 #[.int .i64 0,.string ⟨#[]⟩,.int .i64 0,.string ⟨#[]⟩,.string ⟨#[]⟩,.slice none 0 0,.slice none 0 0,.slice none 0 0,.int .i64 0]);have HB:=qK hB1;clear hB1;go_enter Tryz.func32,Tryz.ntmps32
 go_upto_region 1 with fail
 generalize w.alloc (.cells #[.int .i64 0,.string ⟨#[]⟩,.int .i64 0,.string ⟨#[]⟩,.string ⟨#[]⟩,.slice none 0 0,.slice none 0 0,.slice none 0 0,.int .i64 0] 67)=w1 at Z1 HB ⊢;obtain⟨y0,y1,y2,y3,y4,y5,y6,y7,y8⟩:=zZ6 Z1.out;obtain⟨zf0,zf1,zf2,zf3,zf4,zf5,zf6,zf7,zf8⟩:=zF8 Z1.out;go_wp2;clear y0 zf0 y1 zf1 y2 zf2 y3 zf3 y4 zf4 y5 zf5 y6 zf6 y7 zf7 y8 zf8;obtain⟨hB8,hK8⟩:=res9 Z1.out (.int .i64 3) (.string ⟨#[]⟩) (.int .i64 (n*10000)) (.string ⟨#[]⟩) (.string ⟨#[]⟩) (.slice none 0 0) (.slice none 0 0) (.slice none 0 0) (.int .i64 0);have HR:=qK (HB.out.trans (hK8.toBelow HB.out.size fun b hb e=>by omega));obtain⟨z0,z1,z2,z3,z4,z5,z6,z7,z8⟩:=zZ6 hB8;refine bodyPost_ret (v:=.agg #[.int .i64 3,.string ⟨#[]⟩,.int .i64 (n*10000),.string ⟨#[]⟩,.string ⟨#[]⟩,.slice none 0 0,.slice none 0 0,.slice none 0 0,.int .i64 0]) ?_ rfl ⟨rfl,HR.out⟩;simp[results,Tryz.results32,go_sem,z0,z1,z2,z3,z4,z5,z6,z7,z8]
theorem declFr {w:World}{g:Nat}{ty:TypeId}{cs:Array Value}(h:Blk w g ty cs):w.frozen? ⟨g,0,none⟩=false∧w.frozen? ⟨g,1,none⟩=false∧w.frozen? ⟨g,2,none⟩=false∧w.frozen? ⟨g,3,none⟩=false∧w.frozen? ⟨g,4,none⟩=false∧w.frozen? ⟨g,5,none⟩=false∧w.frozen? ⟨g,6,none⟩=false∧w.frozen? ⟨g,7,none⟩=false∧w.frozen? ⟨g,8,none⟩=false∧w.frozen? ⟨g,9,none⟩=false∧w.frozen? ⟨g,10,none⟩=false:=⟨h.free 0,h.free 1,h.free 2,h.free 3,h.free 4,h.free 5,h.free 6,h.free 7,h.free 8,h.free 9,h.free 10⟩
set_option maxRecDepth 100000 in
set_option maxHeartbeats 4000000 in
theorem let_any (s:Tx)(x:EA)(w:World)(hs:s.length≤maxLen)(hx:OkA w w.heap.size x):Calls Tryz.prog 34 #[.string ⟨s.toArray⟩,.agg (encE x).toArray] w fun e w'=>∃ A,e=.returned (.agg (encD (letD s A x)).toArray)∧OkAd w' w'.heap.size (letD s A x)∧zI4 w' 67 A∧Below w.heap.size w w':=by
 obtain⟨k,t,m,a,b,As,cs,subs,Ad,cd,decls,At,ct,tail,pos⟩:=x;have hb1:Below w.heap.size w ((w.alloc (.cells #[.int .i64 k,.string ⟨t.toArray⟩,.int .i64 m,.string ⟨a.toArray⟩,.string ⟨b.toArray⟩,.slice As subs.length cs,.slice Ad decls.length cd,.slice At tail.length ct,.int .i64 pos] 67)).alloc (.cells #[.int .i64 0,.int .i64 0,.string ⟨#[]⟩,.string ⟨#[]⟩,.string ⟨#[]⟩,.slice none 0 0,.slice none 0 0,.slice none 0 0,.slice none 0 0,.string ⟨#[]⟩,.int .i64 0] 71)):=((Below.refl w.heap.size w).alloc qJ _).alloc (by simp) _;have B1:=qK (show Blk ((w.alloc (.cells #[.int .i64 k,.string ⟨t.toArray⟩,.int .i64 m,.string ⟨a.toArray⟩,.string ⟨b.toArray⟩,.slice As subs.length cs,.slice Ad decls.length cd,.slice At tail.length ct,.int .i64 pos] 67)).alloc (.cells #[.int .i64 0,.int .i64 0,.string ⟨#[]⟩,.string ⟨#[]⟩,.string ⟨#[]⟩,.slice none 0 0,.slice none 0 0,.slice none 0 0,.slice none 0 0,.string ⟨#[]⟩,.int .i64 0] 71)) w.heap.size 67 #[.int .i64 k,.string ⟨t.toArray⟩,.int .i64 m,.string ⟨a.toArray⟩,.string ⟨b.toArray⟩,.slice As subs.length cs,.slice Ad decls.length cd,.slice At tail.length ct,.int .i64 pos] from(Blk.new w _ _).alloc _);have Z1:=qK (show Blk ((w.alloc (.cells #[.int .i64 k,.string ⟨t.toArray⟩,.int .i64 m,.string ⟨a.toArray⟩,.string ⟨b.toArray⟩,.slice As subs.length cs,.slice Ad decls.length cd,.slice At tail.length ct,.int .i64 pos] 67)).alloc (.cells #[.int .i64 0,.int .i64 0,.string ⟨#[]⟩,.string ⟨#[]⟩,.string ⟨#[]⟩,.slice none 0 0,.slice none 0 0,.slice none 0 0,.slice none 0 0,.string ⟨#[]⟩,.int .i64 0] 71)) (w.heap.size+1) 71 #[.int .i64 0,.int .i64 0,.string ⟨#[]⟩,.string ⟨#[]⟩,.string ⟨#[]⟩,.slice none 0 0,.slice none 0 0,.slice none 0 0,.slice none 0 0,.string ⟨#[]⟩,.int .i64 0] from by
  have:=Blk.new (w.alloc (.cells #[.int .i64 k,.string ⟨t.toArray⟩,.int .i64 m,.string ⟨a.toArray⟩,.string ⟨b.toArray⟩,.slice As subs.length cs,.slice Ad decls.length cd,.slice At tail.length ct,.int .i64 pos] 67)) 71 #[.int .i64 0,.int .i64 0,.string ⟨#[]⟩,.string ⟨#[]⟩,.string ⟨#[]⟩,.slice none 0 0,.slice none 0 0,.slice none 0 0,.slice none 0 0,.string ⟨#[]⟩,.int .i64 0];rw[World.size_alloc] at this;exact this)
 have HB:=qK hb1;have HX:=qK hx;clear hb1 hx;simp only[encE];change Calls Tryz.prog 34 #[.string ⟨s.toArray⟩,.agg #[.int .i64 k,.string ⟨t.toArray⟩,.int .i64 m,.string ⟨a.toArray⟩,.string ⟨b.toArray⟩,.slice As subs.length cs,.slice Ad decls.length cd,.slice At tail.length ct,.int .i64 pos]] w _;go_enter Tryz.func34,Tryz.ntmps34
 go_upto_region 1 with fail
 generalize ((w.alloc (.cells #[.int .i64 k,.string ⟨t.toArray⟩,.int .i64 m,.string ⟨a.toArray⟩,.string ⟨b.toArray⟩,.slice As subs.length cs,.slice Ad decls.length cd,.slice At tail.length ct,.int .i64 pos] 67)).alloc (.cells #[.int .i64 0,.int .i64 0,.string ⟨#[]⟩,.string ⟨#[]⟩,.string ⟨#[]⟩,.slice none 0 0,.slice none 0 0,.slice none 0 0,.slice none 0 0,.string ⟨#[]⟩,.int .i64 0] 71))=w1 at B1 Z1 HB ⊢;obtain⟨e0,e1,e2,e3,e4,e5,e6,e7,e8⟩:=zZ6 B1.out;have hbA:=(Below.refl w1.heap.size w1).alloc qJ (.cells #[.int .i64 k,.string ⟨t.toArray⟩,.int .i64 m,.string ⟨a.toArray⟩,.string ⟨b.toArray⟩,.slice As subs.length cs,.slice Ad decls.length cd,.slice At tail.length ct,.int .i64 pos] 67);have Z2:=qK (Z1.out.keep hbA);have X2:=qK (Blk.new w1 67 #[.int .i64 k,.string ⟨t.toArray⟩,.int .i64 m,.string ⟨a.toArray⟩,.string ⟨b.toArray⟩,.slice As subs.length cs,.slice Ad decls.length cd,.slice At tail.length ct,.int .i64 pos]);have HBA:=qK hbA;clear hbA;obtain⟨y0,y1,y2,y3,y4,y5,y6,y7,y8,y9,y10⟩:=zS1 Z2.out;obtain⟨zf0,zf1,zf2,zf3,zf4,zf5,zf6,zf7,zf8,zf9,zf10⟩:=declFr Z2.out;go_wp2;clear e0 e1 e2 e3 e4 e5 e6 e7 e8 y0 zf0 y1 zf1 y2 zf2 y3 zf3 y4 zf4 y5 zf5 y6 zf6 y7 zf7 y8 zf8 y9 zf9 y10 zf10;obtain⟨hB8,hK8⟩:=res11 Z2.out (.int .i64 4) (.int .i64 0) (.string ⟨s.toArray⟩) (.string ⟨#[]⟩) (.string ⟨#[]⟩) (.slice (some ⟨w1.heap.size,0,none⟩) 1 1) (.slice none 0 0) (.slice none 0 0) (.slice none 0 0) (.string ⟨#[]⟩) (.int .i64 0);have hne:w1.heap.size≠w.heap.size+1:=by have:=Z1.out.lt;omega
 have hX8:=hK8.blk X2.out hne;have HR:=qK (show ∃ A,Ending.returned (.agg #[.int .i64 4,.int .i64 0,.string ⟨s.toArray⟩,.string ⟨#[]⟩,.string ⟨#[]⟩,.slice (some ⟨w1.heap.size,0,none⟩) 1 1,.slice none 0 0,.slice none 0 0,.slice none 0 0,.string ⟨#[]⟩,.int .i64 0])=.returned (.agg (encD (letD s A (.mk k t m a b As cs subs Ad cd decls At ct tail pos))).toArray)∧OkAd _ _ (letD s A (.mk k t m a b As cs subs Ad cd decls At ct tail pos))∧zI4 _ 67 A∧Below w.heap.size w _ from by
  have hk0:Kp (· = w.heap.size+1) w _:=((Kp.ofBelow HB.out _).trans (Kp.ofBelow HBA.out _)).trans hK8;have hbw:Below w.heap.size w _:=hk0.toBelow qJ fun b hb e=>by omega
  refine⟨some ⟨w1.heap.size,0,none⟩,rfl,⟨⟨hs,Nat.zero_le _,Nat.zero_le _,Nat.zero_le _⟩,yF1 hX8 (by simp[encE]) (by simp),⟨(zV8 hbw.size).1 _ ((zW2 hbw).1 _ HX.out),trivial⟩,⟨.inl rfl,Nat.zero_le _⟩,trivial,⟨.inl rfl,Nat.zero_le _⟩,⟨.inl rfl,Nat.zero_le _⟩⟩,fun a ha=>by injection ha with ha;subst ha;exact⟨_,hX8⟩,hbw⟩)
 obtain⟨z0,z1,z2,z3,z4,z5,z6,z7,z8,z9,z10⟩:=zS1 hB8;refine bodyPost_ret (v:=.agg #[.int .i64 4,.int .i64 0,.string ⟨s.toArray⟩,.string ⟨#[]⟩,.string ⟨#[]⟩,.slice (some ⟨w1.heap.size,0,none⟩) 1 1,.slice none 0 0,.slice none 0 0,.slice none 0 0,.string ⟨#[]⟩,.int .i64 0]) ?_ rfl HR.out;simp[results,Tryz.results34,go_sem,z0,z1,z2,z3,z4,z5,z6,z7,z8,z9,z10]
set_option maxRecDepth 100000 in
set_option maxHeartbeats 4000000 in
theorem xU0 (s:Tx)(x:EA)(w:World)(hs:s.length≤maxLen)(hx:OkA w w.heap.size x):Calls Tryz.prog 38 #[.string ⟨s.toArray⟩,.agg (encE x).toArray] w fun e w'=>∃ A,e=.returned (.agg (encD (fldD s A x)).toArray)∧OkAd w' w'.heap.size (fldD s A x)∧zI4 w' 67 A∧Below w.heap.size w w':=by
 obtain⟨k,t,m,a,b,As,cs,subs,Ad,cd,decls,At,ct,tail,pos⟩:=x;have hb1:Below w.heap.size w ((w.alloc (.cells #[.int .i64 k,.string ⟨t.toArray⟩,.int .i64 m,.string ⟨a.toArray⟩,.string ⟨b.toArray⟩,.slice As subs.length cs,.slice Ad decls.length cd,.slice At tail.length ct,.int .i64 pos] 67)).alloc (.cells #[.int .i64 0,.int .i64 0,.string ⟨#[]⟩,.string ⟨#[]⟩,.string ⟨#[]⟩,.slice none 0 0,.slice none 0 0,.slice none 0 0,.slice none 0 0,.string ⟨#[]⟩,.int .i64 0] 71)):=((Below.refl w.heap.size w).alloc qJ _).alloc (by simp) _;have B1:=qK (show Blk ((w.alloc (.cells #[.int .i64 k,.string ⟨t.toArray⟩,.int .i64 m,.string ⟨a.toArray⟩,.string ⟨b.toArray⟩,.slice As subs.length cs,.slice Ad decls.length cd,.slice At tail.length ct,.int .i64 pos] 67)).alloc (.cells #[.int .i64 0,.int .i64 0,.string ⟨#[]⟩,.string ⟨#[]⟩,.string ⟨#[]⟩,.slice none 0 0,.slice none 0 0,.slice none 0 0,.slice none 0 0,.string ⟨#[]⟩,.int .i64 0] 71)) w.heap.size 67 #[.int .i64 k,.string ⟨t.toArray⟩,.int .i64 m,.string ⟨a.toArray⟩,.string ⟨b.toArray⟩,.slice As subs.length cs,.slice Ad decls.length cd,.slice At tail.length ct,.int .i64 pos] from(Blk.new w _ _).alloc _);have Z1:=qK (show Blk ((w.alloc (.cells #[.int .i64 k,.string ⟨t.toArray⟩,.int .i64 m,.string ⟨a.toArray⟩,.string ⟨b.toArray⟩,.slice As subs.length cs,.slice Ad decls.length cd,.slice At tail.length ct,.int .i64 pos] 67)).alloc (.cells #[.int .i64 0,.int .i64 0,.string ⟨#[]⟩,.string ⟨#[]⟩,.string ⟨#[]⟩,.slice none 0 0,.slice none 0 0,.slice none 0 0,.slice none 0 0,.string ⟨#[]⟩,.int .i64 0] 71)) (w.heap.size+1) 71 #[.int .i64 0,.int .i64 0,.string ⟨#[]⟩,.string ⟨#[]⟩,.string ⟨#[]⟩,.slice none 0 0,.slice none 0 0,.slice none 0 0,.slice none 0 0,.string ⟨#[]⟩,.int .i64 0] from by
  have:=Blk.new (w.alloc (.cells #[.int .i64 k,.string ⟨t.toArray⟩,.int .i64 m,.string ⟨a.toArray⟩,.string ⟨b.toArray⟩,.slice As subs.length cs,.slice Ad decls.length cd,.slice At tail.length ct,.int .i64 pos] 67)) 71 #[.int .i64 0,.int .i64 0,.string ⟨#[]⟩,.string ⟨#[]⟩,.string ⟨#[]⟩,.slice none 0 0,.slice none 0 0,.slice none 0 0,.slice none 0 0,.string ⟨#[]⟩,.int .i64 0];rw[World.size_alloc] at this;exact this)
 have HB:=qK hb1;have HX:=qK hx;clear hb1 hx;simp only[encE];change Calls Tryz.prog 38 #[.string ⟨s.toArray⟩,.agg #[.int .i64 k,.string ⟨t.toArray⟩,.int .i64 m,.string ⟨a.toArray⟩,.string ⟨b.toArray⟩,.slice As subs.length cs,.slice Ad decls.length cd,.slice At tail.length ct,.int .i64 pos]] w _;go_enter Tryz.func38,Tryz.ntmps38
 go_upto_region 1 with fail
 generalize ((w.alloc (.cells #[.int .i64 k,.string ⟨t.toArray⟩,.int .i64 m,.string ⟨a.toArray⟩,.string ⟨b.toArray⟩,.slice As subs.length cs,.slice Ad decls.length cd,.slice At tail.length ct,.int .i64 pos] 67)).alloc (.cells #[.int .i64 0,.int .i64 0,.string ⟨#[]⟩,.string ⟨#[]⟩,.string ⟨#[]⟩,.slice none 0 0,.slice none 0 0,.slice none 0 0,.slice none 0 0,.string ⟨#[]⟩,.int .i64 0] 71))=w1 at B1 Z1 HB ⊢;obtain⟨e0,e1,e2,e3,e4,e5,e6,e7,e8⟩:=zZ6 B1.out;have hbA:=(Below.refl w1.heap.size w1).alloc qJ (.cells #[.int .i64 k,.string ⟨t.toArray⟩,.int .i64 m,.string ⟨a.toArray⟩,.string ⟨b.toArray⟩,.slice As subs.length cs,.slice Ad decls.length cd,.slice At tail.length ct,.int .i64 pos] 67);have Z2:=qK (Z1.out.keep hbA);have X2:=qK (Blk.new w1 67 #[.int .i64 k,.string ⟨t.toArray⟩,.int .i64 m,.string ⟨a.toArray⟩,.string ⟨b.toArray⟩,.slice As subs.length cs,.slice Ad decls.length cd,.slice At tail.length ct,.int .i64 pos]);have HBA:=qK hbA;clear hbA;obtain⟨y0,y1,y2,y3,y4,y5,y6,y7,y8,y9,y10⟩:=zS1 Z2.out;obtain⟨zf0,zf1,zf2,zf3,zf4,zf5,zf6,zf7,zf8,zf9,zf10⟩:=declFr Z2.out;go_wp2;clear e0 e1 e2 e3 e4 e5 e6 e7 e8 y0 zf0 y1 zf1 y2 zf2 y3 zf3 y4 zf4 y5 zf5 y6 zf6 y7 zf7 y8 zf8 y9 zf9 y10 zf10;obtain⟨hB8,hK8⟩:=res11 Z2.out (.int .i64 1) (.int .i64 1) (.string ⟨s.toArray⟩) (.string ⟨#[]⟩) (.string ⟨#[]⟩) (.slice (some ⟨w1.heap.size,0,none⟩) 1 1) (.slice none 0 0) (.slice none 0 0) (.slice none 0 0) (.string ⟨#[]⟩) (.int .i64 0);have hne:w1.heap.size≠w.heap.size+1:=by have:=Z1.out.lt;omega
 have hX8:=hK8.blk X2.out hne;have HR:=qK (show ∃ A,Ending.returned (.agg #[.int .i64 1,.int .i64 1,.string ⟨s.toArray⟩,.string ⟨#[]⟩,.string ⟨#[]⟩,.slice (some ⟨w1.heap.size,0,none⟩) 1 1,.slice none 0 0,.slice none 0 0,.slice none 0 0,.string ⟨#[]⟩,.int .i64 0])=.returned (.agg (encD (fldD s A (.mk k t m a b As cs subs Ad cd decls At ct tail pos))).toArray)∧OkAd _ _ (fldD s A (.mk k t m a b As cs subs Ad cd decls At ct tail pos))∧zI4 _ 67 A∧Below w.heap.size w _ from by
  have hk0:Kp (· = w.heap.size+1) w _:=((Kp.ofBelow HB.out _).trans (Kp.ofBelow HBA.out _)).trans hK8;have hbw:Below w.heap.size w _:=hk0.toBelow qJ fun b hb e=>by omega
  refine⟨some ⟨w1.heap.size,0,none⟩,rfl,⟨⟨hs,Nat.zero_le _,Nat.zero_le _,Nat.zero_le _⟩,yF1 hX8 (by simp[encE]) (by simp),⟨(zV8 hbw.size).1 _ ((zW2 hbw).1 _ HX.out),trivial⟩,⟨.inl rfl,Nat.zero_le _⟩,trivial,⟨.inl rfl,Nat.zero_le _⟩,⟨.inl rfl,Nat.zero_le _⟩⟩,fun a ha=>by injection ha with ha;subst ha;exact⟨_,hX8⟩,hbw⟩)
 obtain⟨z0,z1,z2,z3,z4,z5,z6,z7,z8,z9,z10⟩:=zS1 hB8;refine bodyPost_ret (v:=.agg #[.int .i64 1,.int .i64 1,.string ⟨s.toArray⟩,.string ⟨#[]⟩,.string ⟨#[]⟩,.slice (some ⟨w1.heap.size,0,none⟩) 1 1,.slice none 0 0,.slice none 0 0,.slice none 0 0,.string ⟨#[]⟩,.int .i64 0]) ?_ rfl HR.out;simp[results,Tryz.results38,go_sem,z0,z1,z2,z3,z4,z5,z6,z7,z8,z9,z10]
def pkA (A' A:Option Addr)(c:Nat)(l:List DA):PA:=⟨[],A',1,[⟨[],none,0,[],A,c,l,none,0,[]⟩]⟩
set_option maxRecDepth 100000 in
set_option maxHeartbeats 4000000 in
theorem pack_any (A:Option Addr)(c:Nat)(l:List DA)(w:World)(hl:SlN w w.heap.size 11 encD A l)(hd:OkAds w w.heap.size l):Calls Tryz.prog 35 #[.slice A l.length c] w fun e w'=>∃ A',e=.returned (.agg #[.string ⟨#[]⟩,.slice A' 1 1])∧OkP w' w'.heap.size (pkA A' A c l)∧(∃ g,A'=some ⟨g,0,none⟩∧w.heap.size≤g∧Blk w' g 58 #[.string ⟨#[]⟩,.slice none 0 0,.slice A l.length c,.slice none 0 0])∧Below w.heap.size w w':=by
 have hB1:=(Below.refl w.heap.size w).alloc qJ (.cells #[.string ⟨#[]⟩,.slice none 0 0] 24);have Z1:=qK (Blk.new w 24 #[.string ⟨#[]⟩,.slice none 0 0]);have HB:=qK hB1;have HL:=qK (show _∧_ from⟨hl,hd⟩);clear hB1 hl hd;go_enter Tryz.func35,Tryz.ntmps35
 go_upto_region 1 with fail
 generalize w.alloc (.cells #[.string ⟨#[]⟩,.slice none 0 0] 24)=w1 at Z1 HB ⊢;have hbA:=(Below.refl w1.heap.size w1).alloc qJ (.cells #[.string ⟨#[]⟩,.slice none 0 0,.slice A l.length c,.slice none 0 0] 58);have Z2:=qK (Z1.out.keep hbA);have X2:=qK (Blk.new w1 58 #[.string ⟨#[]⟩,.slice none 0 0,.slice A l.length c,.slice none 0 0]);have HBA:=qK hbA;clear hbA;have y0:=Z2.out.cell 0;have y1:=Z2.out.cell 1;have zf0:=Z2.out.free 0;have zf1:=Z2.out.free 1;go_wp2;clear y0 y1 zf0 zf1;obtain⟨hB8,hK8⟩:=res2 Z2.out (.string ⟨#[]⟩) (.slice (some ⟨w1.heap.size,0,none⟩) 1 1);have hne:w1.heap.size≠w.heap.size:=by have:=Z1.out.lt;omega
 have hX8:=hK8.blk X2.out hne;have HR:=qK (show ∃ A',Ending.returned (.agg #[.string ⟨#[]⟩,.slice (some ⟨w1.heap.size,0,none⟩) 1 1])=.returned (.agg #[.string ⟨#[]⟩,.slice A' 1 1])∧OkP _ _ (pkA A' A c l)∧(∃ g,A'=some ⟨g,0,none⟩∧w.heap.size≤g∧Blk _ g 58 #[.string ⟨#[]⟩,.slice none 0 0,.slice A l.length c,.slice none 0 0])∧Below w.heap.size w _ from by
  have hk0:Kp (· = w.heap.size) w _:=((Kp.ofBelow HB.out _).trans (Kp.ofBelow HBA.out _)).trans hK8;have hbw:Below w.heap.size w _:=hk0.toBelow qJ fun b hb e=>by omega
  refine⟨some ⟨w1.heap.size,0,none⟩,rfl,⟨Nat.zero_le _,⟨hX8.sl yH6 [⟨[],none,0,[],A,c,l,none,0,[]⟩] rfl,by simp[pkA]⟩,fun f hf=>?_⟩,⟨w1.heap.size,rfl,HB.out.size,hX8⟩,hbw⟩;obtain rfl:=List.mem_singleton.1 hf;exact⟨Nat.zero_le _,⟨.inl rfl,Nat.zero_le _⟩,fun _ h=>(by cases h),(HL.out.1.below hbw).more hbw.size,(zV8 hbw.size).2.2.2 _ ((zW2 hbw).2.2.2 _ HL.out.2),⟨.inl rfl,Nat.zero_le _⟩⟩)
 obtain⟨z0,z1⟩:=zD3 hB8;refine bodyPost_ret (v:=.agg #[.string ⟨#[]⟩,.slice (some ⟨w1.heap.size,0,none⟩) 1 1]) ?_ rfl HR.out;simp[results,Tryz.results35,go_sem,z0,z1]
set_option maxRecDepth 100000 in
set_option maxHeartbeats 1000000 in
theorem same_any (A A':Option Addr)(c c':Nat)(x y:List (List UInt8))(w:World)(hA:Sl w w.heap.size 1 encS A x)(hA':Sl w w.heap.size 1 encS A' y)(hx:x.length≤1099511627776)(hy:y.length≤1099511627776) :
  Calls Tryz.prog 23 #[.slice A x.length c,.slice A' y.length c'] w fun e w'=>e=.returned (.bool (decide (x=y)))∧Below w.heap.size w w':=by
 by_cases hne:x.length=y.length
 ·have n1:(x.length != y.length)=false:=by rw[hne];simp
  have n2:((x.length:Int) != (y.length:Int))=false:=by rw[hne];simp
  have HNE:=qK hne;have hle:x.length≤y.length:=by omega
  have hge:y.length≤x.length:=by omega
  clear hne;generalize hD:decide (x=y)=D;have HD:=qK hD;clear hD;go_enter Tryz.func23,Tryz.ntmps23
  go_wp2;go_loopw [13] (fun i wr=>∃ k,k≤x.length∧i=.int .i64 (k:Nat)∧Hid (x.take k=y.take k)∧Below w.heap.size w wr) (fun i _=>x.length-(intOf i).toNat)
  case atStart=>exact⟨0,Nat.zero_le _,rfl,rfl,Below.refl _ _⟩
  case round=>
   obtain⟨k,hk,rfl,HA,hb⟩:=hrel;have hbz:=hb.size;by_cases hlt:k < x.length
   ·have hlt':(k:Int) < (x.length:Int):=by omega
    have hlt2:k < y.length:=by omega
    obtain⟨b,off,rfl,hbB,hc0⟩:=(hA.below hb).at_ hlt;have g0:=hc0 0 _ rfl;simp only[Nat.mul_one,Nat.add_zero] at g0;clear hc0;obtain⟨b',off',rfl,hbB',hc1⟩:=(hA'.below hb).at_ hlt2;have g1:=hc1 0 _ rfl;simp only[Nat.mul_one,Nat.add_zero] at g1;clear hc1;have HN:=qK (show x[k]=y[k]→x.take (k+1)=y.take (k+1) from fun h=>by rw[List.take_succ_eq_append_getElem hlt,List.take_succ_eq_append_getElem hlt2,HA.out,h]);have HF:=qK (show x[k]≠y[k]→D=false from fun h=>by rw[←HD.out];exact decide_eq_false (fun e=>h (by subst e;rfl)));generalize x[k]=s1 at g0 HN HF;generalize y[k]=s2 at g1 HN HF;by_cases hs:s1=s2
    ·have HN':=qK (HN.out hs);clear HN HF;subst hs;go_wp2;go_quiet (fail)
     go_wp2;go_roundw
     case rel=>exact⟨k+1,by omega,by go_num,HN'.out,hb.drewN _⟩
     case measure=>simp[intOf];omega
    ·have HF':=qK (HF.out hs);have hs':(s1 == s2)=false:=beq_eq_false_iff_ne.2 hs;clear HN HF hs;go_wp2;go_quiet (fail)
     go_wp2;go_ret;exact⟨by rw[HF'.out];rfl,hb.drewN _⟩
   ·have hlt':¬ (k:Int) < (x.length:Int):=by omega
    have HF:=qK (show D=true by rw[←HD.out];refine decide_eq_true ?_;have:=HA.out;rwa [List.take_of_length_le qG,List.take_of_length_le qG] at this);go_wp2;go_ret;exact⟨by rw[HF.out];rfl,hb⟩
 ·have n1:(x.length != y.length)=true:=by simpa using hne
  have n2:((x.length:Int) != (y.length:Int))=true:=by simp;omega
  have hD:decide (x=y)=false:=decide_eq_false (fun e=>hne (by rw[e]));rw[hD];clear hne hD;go_enter Tryz.func23,Tryz.ntmps23
  go_wp2;go_ret;exact⟨rfl,Below.refl _ _⟩
def rxT:Tx→Bool:=fun _=>true
def zJ5 (A:Option Addr):EA:=.mk 15 [] 0 [107] [118] A 2 [nmE [97] 2,nmE [107] 3] none 0 [] none 0 [] 0
def zG7 (A2 A:Option Addr):EA:=.mk 14 [] 0 [] [] A2 2 [zJ5 A,nmE [120] 4] none 0 [] none 0 [] 0
def ex1 (Aa Ab Ac A2 A:Option Addr):List DA:=[letD [108] Aa (numE 10000),fldD [97] Ab (nmE [108] 1),fldD [98] Ac (zG7 A2 A)]
def ex2 (Aa Ab:Option Addr):List DA:=[letD [97] Aa (nmE [98] 0),letD [98] Ab (nmE [97] 0)]
def exStr (A:Option Addr)(c:Nat)(l:List DA):EA:=.mk 13 [] 0 [] [] none 0 [] A c l none 0 [] 0
def ex3 (Aa Ab A Ac Ad:Option Addr):List DA:=[fldD [97] Aa (numE 10000),fldD [98] Ab (exStr A 2 [fldD [97] Ac (numE 20000),fldD [99] Ad (nmE [97] 7)])]
def P1:Pk:=plP (pkA none none 0 (ex1 none none none none none))
def P2:Pk:=plP (pkA none none 0 (ex2 none none))
def P3:Pk:=plP (pkA none none 0 (ex3 none none none none none))
theorem uses1:zT0 rxT P1=([⟨0,1,[108],2,0⟩,⟨0,2,[97],1,0⟩,⟨0,3,[107],3,0⟩,⟨0,4,[120],0,0⟩],0):=by kernel_rfl
theorem undef1:zD0 rxT P1=([⟨0,4,[120],0,0⟩],0):=by kernel_rfl
theorem decl1:zR0 rxT P1=([[97],[98],[108]],0):=by kernel_rfl
theorem err1:errP rxT P1=0:=by kernel_rfl
theorem err2:errP rxT P2=0:=by kernel_rfl
theorem uses3:zT0 rxT P3=([⟨0,7,[97],1,1⟩],0):=by kernel_rfl
theorem nd1:ndFs P1.files≤1048576:=by decide
theorem nd2:ndFs P2.files≤1048576:=by decide
theorem nd3:ndFs P3.files≤1048576:=by decide
theorem zA7 {file:Nat}{s:Tx}{x:Int × Int × Option Nat}{ρ:RS}(h:∀ o∈ρ.objs,o.used=true):∀ o∈(zV3 file s x ρ).objs,o.used=true:=fun o ho=>by
 unfold zV3 at ho;split at ho
 ·obtain⟨y,hy,rfl⟩:=List.mem_map.1 ho;unfold zL2;split
  ·rfl
  ·exact h y hy
 ·split at ho <;> exact h o ho
theorem vis_num {R:RF}{n:Int}{env:List ScA}{lp:List Tx}{file:Nat}{σ σ':GS Unit}{e':EA}(h:VisE R U0 (numE n) env lp file σ σ' e'):σ'=σ:=by
 unfold numE at h;rw[VisE] at h;rcases h with ⟨h,_⟩ | ⟨_,σ1,subs',σ2,env2,decls',As',cs',Ad',cd',At',ct',hs,hd,hds,_⟩
 ·exact absurd h (by decide)
 ·rw[zW9] at hs;rw[zX6] at hds;rcases hd with ⟨h,_⟩ | ⟨_,h2,_⟩
  ·exact absurd h (by decide)
  ·rw[hds.1,h2,hs.1]
theorem yV0 {R:RF}{s:Tx}{pos:Int}{env:List ScA}{lp:List Tx}{file:Nat}{σ σ':GS Unit}{e':EA}(h:VisE R U0 (nmE s pos) env lp file σ σ' e'):σ'= {σ with ρ:=zV3 file s (zW4 R.imps env lp file s) σ.ρ}:=by
 unfold nmE at h;rw[VisE] at h;rcases h with ⟨_,h,_⟩ | ⟨h,_⟩
 ·exact h
 ·exact absurd rfl h
theorem yQ6 {X:Type}{R:RF}{U:UseR X}{s:Tx}{A:Option Addr}{x:EA}{env:List ScA}{lp:List Tx}{file:Nat}{σ σ':GS X}{d':DA}(h:VisD R U (letD s A x) env lp file σ σ' d'):∃ e',VisE R U x env lp file σ σ' e':=by
 unfold letD at h;rw[VisD] at h;obtain⟨σ1,subs',body',As',cs',Ab',cb',At',ct',Al',cl',hs,hb,_⟩:=h;rw[zW9] at hs;obtain⟨σ2,e1,r1,he,hr,_⟩:=hs;rw[zW9] at hr;rw[zX6] at hb;refine⟨e1,?_⟩;rw[hb.1,hr.1];simpa using he
theorem xU1 {R:RF}{s:Tx}{A:Option Addr}{x:EA}{env:List ScA}{lp:List Tx}{file:Nat}{σ σ':GS Unit}{d':DA}(h:VisD R U0 (fldD s A x) env lp file σ σ' d'):∃ e',VisE R U0 x env lp file σ σ' e':=by
 unfold fldD at h;rw[VisD] at h;obtain⟨σ1,subs',body',As',cs',Ab',cb',At',ct',Al',cl',hs,hb,_⟩:=h;rw[zW9] at hs;obtain⟨σ2,e1,r1,he,hr,_⟩:=hs;rw[zW9] at hr;rw[zX6] at hb;refine⟨e1,?_⟩;rw[hb.1,hr.1];simpa using he
theorem vis_list {R:RF}{A2 A:Option Addr}{env:List ScA}{lp:List Tx}{file:Nat}{σ σ':GS Unit}{e':EA}(h:VisE R U0 (zG7 A2 A) env lp file σ σ' e')(hu:∀ o∈σ.ρ.objs,o.used=true):∀ o∈σ'.ρ.objs,o.used=true:=by
 unfold zG7 zJ5 at h;rw[VisE] at h;rcases h with ⟨h,_⟩ | ⟨_,σ1,subs',σ2,env2,decls',As',cs',Ad',cd',At',ct',hs,hd,hds,_⟩
 ·exact absurd h (by decide)
 rw[zX6] at hds;rcases hd with ⟨h,_⟩ | ⟨_,h2,_⟩
 ·exact absurd h (by decide)
 rw[hds.1,h2];rw[zW9] at hs;obtain⟨σ3,e3,r3,he,hr,_⟩:=hs;rw[zW9] at hr;obtain⟨σ4,e4,r4,hx,hn,_⟩:=hr;rw[zW9] at hn;rw[hn.1,yV0 hx];refine zA7 ?_;rw[VisE] at he;rcases he with ⟨h,_⟩ | ⟨_,τ1,tsubs',τ2,tenv2,tdecls',tAs',tcs',tAd',tcd',tAt',tct',ths,thd,thds,_⟩
 ·exact absurd h (by decide)
 rw[zX6] at thds;rcases thd with ⟨h,_⟩ | ⟨_,h3,_⟩
 ·exact absurd h (by decide)
 rw[thds.1,h3];rw[zW9] at ths;obtain⟨τ3,f3,q3,ha,hk,_⟩:=ths;rw[zW9] at hk;obtain⟨τ4,f4,q4,hb,hm,_⟩:=hk;rw[zW9] at hm;rw[hm.1,yV0 hb];refine zA7 ?_;rw[yV0 ha];exact zA7 hu
theorem ex1_used {R:RF}{σ0 σ:GS Unit}{env:List ScA}{rs:List (List DA)}{A' A Aa Ab Ac A2 A1:Option Addr}{c:Nat}(hR:Root (pkA A' A c (ex1 Aa Ab Ac A2 A1)) R σ0 env)(hV:zO6 R U0 env 0 (pkA A' A c (ex1 Aa Ab Ac A2 A1)).files σ0 σ rs):∀ o∈σ.ρ.objs,o.used=true:=by
 obtain⟨bF,bL,hev⟩:=hR.ev;have h2:σ0.ρ.objs.map (fun o=>(o.file,o.d))=[(0,letD [108] Aa (numE 10000))]:=hR.o2;obtain⟨o,ho⟩:∃ o,σ0.ρ.objs=[o]:=List.length_eq_one_iff.1 (by simpa using congrArg List.length h2);obtain⟨σ1,d1,r1,h3,h4,_⟩:=hV;rw[h4.1];have h5:zX6 R U0 [letD [108] Aa (numE 10000),fldD [97] Ab (nmE [108] 1),fldD [98] Ac (zG7 A2 A1)] env [] 0 σ0 σ1 d1:=h3;rw[zX6] at h5;obtain⟨τ1,q1,s1,g1,h5,_⟩:=h5;rw[zX6] at h5;obtain⟨τ2,q2,s2,g2,h5,_⟩:=h5;rw[zX6] at h5;obtain⟨τ3,q3,s3,g3,h5,_⟩:=h5;rw[zX6] at h5;rw[h5.1];obtain⟨_,k1⟩:=yQ6 g1;obtain⟨_,k2⟩:=xU1 g2;obtain⟨_,k3⟩:=xU1 g3;refine vis_list k3 ?_;rw[yV0 k2,vis_num k1];have hf:(zW4 R.imps env [] 0 [108]).2.2=some o.blk:=by
  rw[hev,ho];rfl
 intro x hx;have hx':x∈(zV3 0 [108] (zW4 R.imps env [] 0 [108]) σ0.ρ).objs:=hx;unfold zV3 at hx';rw[hf] at hx';simp only[ho,List.map_cons,List.map_nil,List.mem_singleton] at hx';rw[hx'];unfold zL2;rw[if_pos rfl]
open Go.Maps
theorem yI1 (fv:Value)(w:World):Calls Tryz.prog 47 #[.slice none 0 0,fv] w fun e w'=>e=.returned (.tuple #[])∧w'=w:=AnyF.slices_SortFunc_none Tryz.sortD none 0 fv w
set_option maxRecDepth 100000 in
set_option maxHeartbeats 8000000 in
theorem yI2 (rx:Tx→Bool)(p:PA)(w:World)(hP:PkL w p)(hR:∀ f∈p.files,PatDs (RxOk rx) (plDs f.decls))(hG:Glob w)(hs:(∀ f∈p.files,errF rx (plF f)=0)→wF p.files+(0+(p.files.map fun f=>vDs f.decls).sum)≤1099511627776)
  (he0:errP rx (plP p)=0)(him:∀ f∈p.files,f.imps=[])(hu:∀ (R:RF)(σ0 σ:GS Unit)(env:List ScA)(rs:List (List DA)),Root p R σ0 env→zO6 R U0 env 0 p.files σ0 σ rs→∀ o∈σ.ρ.objs,o.used=true) :
  Calls Tryz.prog 19 #[.agg #[.string ⟨p.path.toArray⟩,.slice p.A p.files.length p.c]] w fun e w'=>∃ A c,e=.returned (.tuple #[.slice A 0 c,.int .i64 0])∧Below w.heap.size w w':=by
 have hbw:=(Below.refl w.heap.size w).alloc qJ (.cells #[.string ⟨p.path.toArray⟩,.slice p.A p.files.length p.c] 24);have HB0:=qK (Blk.new w 24 #[.string ⟨p.path.toArray⟩,.slice p.A p.files.length p.c]);have HW:=qK hbw;have hnf:=hP.nf;have HP1:=qK (hP.keep hbw);have HE:=qK he0;have HIm:=qK him;have HU:=qK hu;have cL:=qK (yS6 rx p 0 (w.alloc (.cells #[.string ⟨p.path.toArray⟩,.slice p.A p.files.length p.c] 24)) (hP.keep hbw) hR (hG.keep hbw) hs);clear hP hR hG hs hbw he0 him hu;go_enter Tryz.func19,Tryz.ntmps19
 go_upto_region 1 with fail
 generalize w.alloc (.cells #[.string ⟨p.path.toArray⟩,.slice p.A p.files.length p.c] 24)=w1 at HB0 HW HP1 cL ⊢;have b0:=HB0.out.cell 0;have b1:=HB0.out.cell 1;go_wp2_with fail
 refine cL.out.mono ?_;rintro e w2 ⟨hb2,h⟩;clear b0 b1 cL;have HB2:=qK hb2;rcases h with ⟨h0,rfl⟩ | ⟨h0,hok,R,σ0,σ,env,rs,hRt,hV,h⟩
 ·exact absurd ((zG4 h0).symm.trans HE.out) h0
 have hE:=zM0 h0;rw[←zP5 hRt hV,HE.out] at hE;rcases h with ⟨h6,rfl⟩ | ⟨h6,rfl,Im,hO⟩
 ·rw[h6,if_pos rfl] at hE;cases hE
 have HUs:=qK (HU.out R σ0 σ env rs hRt hV);have HAK:=qK (yB6 hRt hV);have HP2:=qK (HP1.out.keep hb2);obtain⟨Av,cv,hav⟩:=zU6 hO.st.al;have HAl:=qK (show Sl w2 w2.heap.size 1 (fun b=>[lptr b]) Av σ.ρ.all from by
  have h:=hO.st.al;rw[hav,List.map_eq_flatMap] at h;exact(zG1 (k:=1) (enc:=fun b=>[lptr b]) (fun _=>rfl) (.inl h) (by decide)).2)
 have hrc:=hO.st.rs.rc;rw[hav] at hrc;have HRc:=qK hrc;have HRl:=qK hO.st.rs.rl;have HOb:=qK hO.st.rs.ob;have HBx:=qK (HB0.out.keep hb2);have HBl:=qK (show w.heap.size < w2.heap.size from HBx.out.lt);have hal:σ.ρ.all.length≤1099511627776:=by have:=hO.st.bu;omega
 clear h0 hok hRt hV hE h6 hO hav hrc HB0 HP1 HE HU;have HW2:=qK (HW.out.trans (HB2.out.mono HW.out.size));clear hb2 HW HB2;have r5:=HRc.out.cell 5;go_upto_region 6 with fail
 clear r5;go_loopw [6,26] (fun vv iv wq=>∃ i:Nat,i≤σ.ρ.all.length∧vv=.slice none 0 0∧iv=.int .i64 (i:Nat)∧Hid (Below w2.heap.size w2 wq)) (fun _ iv _=>σ.ρ.all.length-(intOf iv).toNat)
 case atStart=>exact⟨0,Nat.zero_le _,rfl,rfl,qK qH⟩
 case round=>
  obtain⟨i,hi,rfl,rfl,HB⟩:=hrel;by_cases hlt:i < σ.ρ.all.length
  ·have hlt':(i:Int) < (σ.ρ.all.length:Int):=by omega
   obtain⟨bb,off,hA,hbW,hc⟩:=HAl.out.at_ hlt;have c0:=zZ0 HB.out hbW (hc 0 _ rfl);simp only[Nat.mul_one,Nat.add_zero] at c0;obtain⟨o,ho,hob⟩:=HAK.out _ (List.getElem_mem hlt);rw[←hob] at c0;unfold lptr at c0;obtain⟨_,_,_,d13⟩:=obC ((HOb.out.keep HB.out).at_ o ho);rw[HUs.out o ho] at d13;clear hc hob ho;go_wp2;go_roundw
   case rel=>exact⟨i+1,by omega,rfl,by go_num,HB⟩
   case measure=>simp[intOf];omega
  ·obtain rfl:i=σ.ρ.all.length:=by omega
   clear hlt HAl HAK HOb hal hi HUs HRc HRl;have b1:=((Kp.low HB.out).blk HBx.out (by have:=HBl.out;omega)).cell 1;go_upto_region 12 with fail
   clear b1;go_loopw [6,57] (fun vv iv wq=>∃ i:Nat,i≤p.files.length∧vv=.slice none 0 0∧iv=.int .i64 (i:Nat)∧Hid (Below w2.heap.size w2 wq)) (fun _ iv _=>p.files.length-(intOf iv).toNat)
   case atStart=>exact⟨0,Nat.zero_le _,rfl,rfl,HB⟩
   case round=>
    clear HB;obtain⟨i,hi,rfl,rfl,HB⟩:=hrel;by_cases hlt:i < p.files.length
    ·have hlt':(i:Int) < (p.files.length:Int):=by omega
     obtain⟨bb,off,hA,hbW,hc⟩:=HP2.out.ok.files.1.at_ hlt;obtain⟨c0,c1,c2,c3⟩:=yC6 hc;clear hc;replace c0:=zZ0 HB.out hbW c0;replace c1:=zZ0 HB.out hbW c1;replace c2:=zZ0 HB.out hbW c2;replace c3:=zZ0 HB.out hbW c3;have hfi:=HIm.out _ (List.getElem_mem hlt);generalize p.files[i]=f at c0 c1 c2 c3 hfi;obtain⟨fpkg,fAi,fci,fimps,fAd,fcd,fdecls,fAt,fct,ftail⟩:=f;dsimp only at c0 c1 c2 c3 hfi;subst hfi;simp only[List.length_nil] at c0 c1 c2 c3;have hba:=(Below.refl wr.heap.size wr).alloc qJ (.cells #[.string ⟨fpkg.toArray⟩,.slice fAi 0 fci,.slice fAd fdecls.length fcd,.slice fAt ftail.length fct] 58);have B1:=qK (Blk.new wr 58 #[.string ⟨fpkg.toArray⟩,.slice fAi 0 fci,.slice fAd fdecls.length fcd,.slice fAt ftail.length fct]);have HBb:=qK (HB.out.trans (hba.mono HB.out.size));go_upto_region 14 with fail
     clear c0 c1 c2 c3 hbW hA hba HB;obtain⟨gF,hgF⟩:∃ gF,gF=wr.heap.size:=⟨_,rfl⟩;rw[←hgF] at B1 ⊢;generalize wr.alloc (.cells #[.string ⟨fpkg.toArray⟩,.slice fAi 0 fci,.slice fAd fdecls.length fcd,.slice fAt ftail.length fct] 58)=wb at B1 HBb ⊢;clear hgF;obtain⟨b0,b1,b2,b3⟩:=yG2 B1.out;go_upto_region 15 with fail
     clear b0 b1 b2 b3 B1;go_loopw [6,65] (fun vv jv wq=>vv=.slice none 0 0∧jv=.int .i64 0∧wq=wb) (fun _ _ _=>0)
     case atStart=>exact⟨rfl,rfl,rfl⟩
     case round=>
      obtain⟨rfl,rfl,rfl⟩:=hrel;go_wp2;go_roundw
      case rel=>exact⟨i+1,by omega,rfl,by go_num,HBb⟩
      case measure=>simp[intOf];omega
    ·obtain rfl:i=p.files.length:=by omega
     have cS:=qK (yI1 (.func (.func 48) #[] #[]) wr);have HR:=qK (HW2.out.trans (HB.out.mono HW2.out.size));clear hlt hi hnf HIm HP2 HBx HBl HW2 HB;go_upto_region 21 with fail
     go_wp2_with fail
     refine cS.out.mono ?_;rintro e w8 ⟨rfl,rfl⟩;go_wp2;refine bodyPost_ret (v:=.tuple #[.slice none 0 0,.int .i64 0]) (by simp[results,Tryz.results19,go_sem]) rfl ⟨none,0,rfl,HR.out⟩
end Go.Proofs.YtdgehhgjgifikaaGreatDoor
