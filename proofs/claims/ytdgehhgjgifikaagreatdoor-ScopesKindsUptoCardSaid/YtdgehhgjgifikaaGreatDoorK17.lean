/- What the claim needs of:YV YW YX ZA ZB ZC. -/
import Derived.Test.YtdgehhgjgifikaaGreatDoorK16
import Derived.StillTailTactics
namespace Go.Proofs.YtdgehhgjgifikaaGreatDoor
open Go.RowKit
theorem elDecl:ElT Tryz.prog 56 71 11 184:=ElT.mk_ (z:=.agg #[.int .i64 0,.int .i64 0,.string ByteArray.empty,.string ByteArray.empty,.string ByteArray.empty,.slice none 0 0,.slice none 0 0,.slice none 0 0,.slice none 0 0,.string ByteArray.empty,.int .i64 0]) Tryz.underlying56 qF qF (by decide)
section
variable {X:Type}{R:RF}{C:Clo X}{n s s':Nat}{σ0 σ σ':GS X}{Im0 Im Im' N:Nat→Prop}{w wx wy:World}
structure RowD (R:RF)(C:Clo X)(w:World)(v:Value)(l':List DA)(σ:GS X)(Im:Nat→Prop)(wx:World):Prop where
 ac:Acc wx 0 71 11 v l'.length (l'.flatMap encD)
 ma:∀ b,v.ownBlock=some b→Mine (zn R C σ Im) wx b∧w.heap.size≤b
 ok:OkIds Im wx l'
variable {v v':Value}{l':List DA}
theorem RowD.nil_:RowD R C w (.slice none 0 0) [] σ Im wx:=⟨Acc.nil_ _ _ _ _,fun b hb=>(by cases hb),trivial⟩
theorem RowD.below (h:RowD R C w v l' σ Im wx)(hb:Below wx.heap.size wx wy):RowD R C w v l' σ Im wy:=
 ⟨h.ac.below hb,fun b hv=>⟨(h.ma b hv).1.up hb.size,(h.ma b hv).2⟩,(zZ2 (N:=fun _=>False) (Kp.ofBelow hb _) (fun _ _ h=>h) (fun _ h=>h)).2.2.2 _ h.ok⟩
theorem RowD.step (h:RowD R C w v l' σ Im wx)(hz:(zn R C σ Im).Ok wx)(h2:Sp (zn R C σ Im) wx (zn R C σ' Im') wy):RowD R C w v l' σ' Im' wy:=
 ⟨zE9 h.ac h2.kp fun b hb=>(h.ma b hb).1.2.1,fun b hb=>⟨h2.own (h.ma b hb).1,(h.ma b hb).2⟩,(zZ2 h2.kp (fun b hb hm=>(hz.mu b hm).2 hb) h2.im).2.2.2 _ h.ok⟩
theorem RowD.freeze (h:RowD R C w v l' σ Im wx){F:Nat→Prop}(hF:∀ b,v.ownBlock=some b→¬ F b):RowD R C w v l' σ (fun b=>Im b∨F b) wx:=
 ⟨h.ac,fun b hb=>⟨⟨(h.ma b hb).1.1,(h.ma b hb).1.2.1,fun hh=>hh.elim (h.ma b hb).1.2.2 (hF b hb)⟩,(h.ma b hb).2⟩,(zZ2 (N:=fun _=>False) (Kp.refl _ _) (fun _ _ h=>h) (fun _ h=>.inl h)).2.2.2 _ h.ok⟩
theorem RowD.app (h:RowD R C w v l' σ Im wx)(hz:(zn R C σ Im).Ok wx)(hw:w.heap.size≤wx.heap.size){e':DA}(he:OkId Im wx e'){o:Obj}(hac:Acc wy 0 71 11 v' (l'.length+1) (l'.flatMap encD++encD e'))(hg:(wx.alloc o).grownBy wy v.ownBlock)(hob:v'.ownBlock=v.ownBlock∨∃ g,v'.ownBlock=some g∧(wx.alloc o).heap.size≤g) :
  RowD R C w v' (l'++ [e']) σ Im wy∧Kp (fun b=>v.ownBlock=some b) wx wy:=by
 have hk:Kp (fun b=>v.ownBlock=some b) wx wy:=((Kp.refl _ wx).alloc o).grown hg fun k hk=>.inl hk;have hN:∀ b,Im b→¬ v.ownBlock=some b:=fun b hb hv=>(h.ma b hv).1.2.2 hb;refine⟨⟨?_,fun b hb=>?_,((zZ2 hk hN (fun _ h=>h)).2.2.2 _ h.ok).snoc ((zZ2 hk hN (fun _ h=>h)).2.1 _ he)⟩,hk⟩
 ·exact xG
 ·exact vN
end
section
variable {X:Type}{R:RF}{C:Clo X}{n s:Nat}{U:UseR X}{σ0 σ σ':GS X}{Im0 Im Im':Nat→Prop}{w wx wy:World}
structure Dc0 (R:RF)(C:Clo X)(n s:Nat)(σ0:GS X)(Im0:Nat→Prop)(w:World)(Al:Option Addr)(l:List DA)(env:List ScA)(ve:Value)(lp:List Tx)(A:Option Addr)(σ:GS X)(Im:Nat→Prop)(wx:World):Prop where
 fr:Fr R C n s σ0 Im0 w σ Im wx
 sl:SlI Im wx 11 encD Al l
 ok:OkIds Im wx l
 en:EnvI Im wx ve env
 kn:EnvK σ.ρ.objs env
 lp:SlI Im wx 1 encS A lp
variable {Al A:Option Addr}{l:List DA}{env:List ScA}{ve:Value}{lp:List Tx}{s':Nat}
theorem Dc0.move {N:Nat→Prop}(h:Dc0 R C n s σ0 Im0 w Al l env ve lp A σ Im wx)(fr:Fr R C n s' σ0 Im0 w σ' Im' wy)(hk:Kp N wx wy)(hN:∀ b,Im b→¬ N b)(hI:∀ b,Im b→Im' b)(kn:EnvK σ'.ρ.objs env):Dc0 R C n s' σ0 Im0 w Al l env ve lp A σ' Im' wy:=
 ⟨fr,h.sl.kept hk hN hI,(zZ2 hk hN hI).2.2.2 _ h.ok,h.en.kept hk hN hI,kn,h.lp.kept hk hN hI⟩
theorem Dc0.below (h:Dc0 R C n s σ0 Im0 w Al l env ve lp A σ Im wx)(hb:Below wx.heap.size wx wy):Dc0 R C n s σ0 Im0 w Al l env ve lp A σ Im wy:=
 h.move (N:=fun _=>False) (h.fr.below hb) (Kp.ofBelow hb _) (fun _ _ h=>h) (fun _ h=>h) h.kn
theorem Dc0.step (h:Dc0 R C n s σ0 Im0 w Al l env ve lp A σ Im wx)(h1:St R C n s' σ' Im' wy)(h2:Sp (zn R C σ Im) wx (zn R C σ' Im') wy)(h3:Gr wx σ σ'):Dc0 R C n s' σ0 Im0 w Al l env ve lp A σ' Im' wy:=
 h.move (h.fr.step h1 h2 h3) h2.kp (fun b hb hm=>(h.fr.st.zo.mu b hm).2 hb) h2.im (h.kn.gr h3)
theorem Dc0.freeze (h:Dc0 R C n s σ0 Im0 w Al l env ve lp A σ Im wx){F:Nat→Prop}(hF:∀ b,F b→Mine (zn R C σ Im) wx b∧w.heap.size≤b):Dc0 R C n s σ0 Im0 w Al l env ve lp A σ (fun b=>Im b∨F b) wx:=
 h.move (N:=fun _=>False) (h.fr.freeze hF) (Kp.refl _ _) (fun _ _ h=>h) (fun _ h=>.inl h) h.kn
theorem Dc0.write {N:Nat→Prop}(h:Dc0 R C n s σ0 Im0 w Al l env ve lp A σ Im wx)(hk:Kp N wx wy)(hN:∀ b,N b→Mine (zn R C σ Im) wx b∧w.heap.size≤b):Dc0 R C n s σ0 Im0 w Al l env ve lp A σ Im wy:=
 h.move (h.fr.write hk fun b hb=>⟨(hN b hb).2,(hN b hb).1.2⟩) hk (fun b hb hn=>(hN b hn).1.2.2 hb) (fun _ h=>h) h.kn
theorem Dc0.less (h:Dc0 R C n s σ0 Im0 w Al l env ve lp A σ Im wx)(hs:s'≤s):Dc0 R C n s' σ0 Im0 w Al l env ve lp A σ Im wx:=⟨h.fr.less hs,h.sl,h.ok,h.en,h.kn,h.lp⟩
end
structure ResD (AS:Option Addr)(ls:List EA)(AB:Option Addr)(lb:List DA)(A7:Option Addr)(tl:List Tx)(A8:Option Addr)(le:List Tx)(Im:Nat→Prop)(wx:World):Prop where
 sl:SlI Im wx 9 encE AS ls
 ok:OkIs Im wx ls
 bl:SlI Im wx 11 encD AB lb
 bo:OkIds Im wx lb
 tl:SlI Im wx 1 encS A7 tl
 le:SlI Im wx 1 encS A8 le
section
variable {X:Type}{R:RF}{C:Clo X}{n s s':Nat}{σ0 σ σ':GS X}{Im0 Im Im' N:Nat→Prop}{w wx wy:World}
variable {AS AB A7 A8:Option Addr}{ls:List EA}{lb:List DA}{tl le:List Tx}
theorem ResD.kept (h:ResD AS ls AB lb A7 tl A8 le Im wx)(hk:Kp N wx wy)(hN:∀ b,Im b→¬ N b)(hI:∀ b,Im b→Im' b):ResD AS ls AB lb A7 tl A8 le Im' wy:=
 ⟨h.sl.kept hk hN hI,(zZ2 hk hN hI).2.2.1 _ h.ok,h.bl.kept hk hN hI,(zZ2 hk hN hI).2.2.2 _ h.bo,h.tl.kept hk hN hI,h.le.kept hk hN hI⟩
theorem RowE.resD {cS:Nat}(h:RowE R C w (.slice AS ls.length cS) ls σ Im wx)(hl:ls.length≤1048576):ResD AS ls none [] none [] none [] (fun b=>Im b∨(Value.slice AS ls.length cS).ownBlock=some b) wx:=
 ⟨(h.res hl).sl,(h.res hl).ok,SlI.nil_ _ _ _ _ _,trivial,SlI.nil_ _ _ _ _ _,SlI.nil_ _ _ _ _ _⟩
variable {Al A:Option Addr}{l:List DA}{env:List ScA}{ve:Value}{lp:List Tx}{vR:Value}{lR:List DA}{g:Nat}{E:Array Value}{d:DA}
structure Dc1 (R:RF)(C:Clo X)(n s:Nat)(σ0:GS X)(Im0:Nat→Prop)(w:World)(Al:Option Addr)(l:List DA)(env:List ScA)(ve:Value)(lp:List Tx)(A:Option Addr)(vR:Value)(lR:List DA)(g:Nat)(E:Array Value)(d:DA)(σ:GS X)(Im:Nat→Prop)(wx:World):Prop where
 x:Dc0 R C n s σ0 Im0 w Al l env ve lp A σ Im wx
 r:RowD R C w vR lR σ Im wx
 b:Blk wx g 71 E
 m:Mine (zn R C σ Im) wx g
 lt:∀ q,vR.ownBlock=some q→q < g
 wg:w.heap.size≤g
 i:OkId Im wx d
theorem Dc1.below (h:Dc1 R C n s σ0 Im0 w Al l env ve lp A vR lR g E d σ Im wx)(hb:Below wx.heap.size wx wy):Dc1 R C n s σ0 Im0 w Al l env ve lp A vR lR g E d σ Im wy:=
 ⟨h.x.below hb,h.r.below hb,h.b.keep hb,h.m.up hb.size,h.lt,h.wg,(zZ2 (N:=fun _=>False) (Kp.ofBelow hb _) (fun _ _ h=>h) (fun _ h=>h)).2.1 _ h.i⟩
theorem Dc1.less (h:Dc1 R C n s σ0 Im0 w Al l env ve lp A vR lR g E d σ Im wx)(hs:s'≤s):Dc1 R C n s' σ0 Im0 w Al l env ve lp A vR lR g E d σ Im wx:=⟨h.x.less hs,h.r,h.b,h.m,h.lt,h.wg,h.i⟩
theorem Dc1.step (h:Dc1 R C n s σ0 Im0 w Al l env ve lp A vR lR g E d σ Im wx)(h1:St R C n s' σ' Im' wy)(h2:Sp (zn R C σ Im) wx (zn R C σ' Im') wy)(h3:Gr wx σ σ'):Dc1 R C n s' σ0 Im0 w Al l env ve lp A vR lR g E d σ' Im' wy:=
 ⟨h.x.step h1 h2 h3,h.r.step h.x.fr.st.zo h2,h2.kp.blk h.b h.m.2.1,h2.own h.m,h.lt,h.wg,(zZ2 h2.kp (fun b hb hm=>(h.x.fr.st.zo.mu b hm).2 hb) h2.im).2.1 _ h.i⟩
theorem Dc1.freeze (h:Dc1 R C n s σ0 Im0 w Al l env ve lp A vR lR g E d σ Im wx){F:Nat→Prop}(hF:∀ b,F b→Mine (zn R C σ Im) wx b∧g+1≤b):Dc1 R C n s σ0 Im0 w Al l env ve lp A vR lR g E d σ (fun b=>Im b∨F b) wx:=
 ⟨h.x.freeze fun b hb=>⟨(hF b hb).1,by have:=(hF b hb).2;have:=h.wg;omega⟩,h.r.freeze fun b hb hf=>by have:=(hF b hf).2;have:=h.lt b hb;omega,h.b,
  ⟨h.m.1,h.m.2.1,fun hh=>hh.elim h.m.2.2 fun h4=>by have:=(hF _ h4).2;omega⟩,h.lt,h.wg,(zZ2 (N:=fun _=>False) (Kp.refl _ _) (fun _ _ h=>h) (fun _ h=>.inl h)).2.1 _ h.i⟩
theorem RowD.write {v:Value}{l':List DA}(h:RowD R C w v l' σ Im wx)(hk:Kp N wx wy)(h1:∀ b,v.ownBlock=some b→¬ N b)(h2:∀ b,Im b→¬ N b):RowD R C w v l' σ Im wy:=
 ⟨zE9 h.ac hk h1,fun b hb=>⟨(h.ma b hb).1.up hk.size,(h.ma b hb).2⟩,(zZ2 hk h2 (fun _ h=>h)).2.2.2 _ h.ok⟩
theorem Dc1.write (h:Dc1 R C n s σ0 Im0 w Al l env ve lp A vR lR g E d σ Im wx)(hk:Kp N wx wy)(hN:∀ b,N b→Mine (zn R C σ Im) wx b∧g+1≤b):Dc1 R C n s σ0 Im0 w Al l env ve lp A vR lR g E d σ Im wy:=
 ⟨h.x.write hk fun b hb=>⟨(hN b hb).1,by have:=(hN b hb).2;have:=h.wg;omega⟩,h.r.write hk (fun b hb hn=>by have:=(hN b hn).2;have:=h.lt b hb;omega) (fun b hb hn=>(hN b hn).1.2.2 hb),
  hk.blk h.b (fun hn=>by have:=(hN _ hn).2;omega),h.m.up hk.size,h.lt,h.wg,(zZ2 hk (fun b hb hn=>(hN b hn).1.2.2 hb) (fun _ h=>h)).2.1 _ h.i⟩
theorem Dc1.setB (h:Dc1 R C n s σ0 Im0 w Al l env ve lp A vR lR g E d σ Im wx)(i:Nat)(v:Value):Dc1 R C n s σ0 Im0 w Al l env ve lp A vR lR g (E.setIfInBounds i v) d σ Im (wx.setCell ⟨g,i,none⟩ v):=by
 have hk:Kp (· = g) wx (wx.setCell ⟨g,i,none⟩ v):=(Kp.refl (· = g) wx).setCell (p:=⟨g,i,none⟩) rfl v;have hI:∀ b,Im b→¬ b=g:=fun b hb e=>h.m.2.2 (e▸hb);exact⟨h.x.write hk fun b hb=>by subst hb;exact⟨h.m,h.wg⟩,h.r.write hk (fun b hb e=>by have:=h.lt b hb;omega) hI,h.b.set_ i v,h.m.up hk.size,h.lt,h.wg,(zZ2 hk hI (fun _ h=>h)).2.1 _ h.i⟩
theorem Dc1.cast {E':Array Value}(h:Dc1 R C n s σ0 Im0 w Al l env ve lp A vR lR g E d σ Im wx)(he:E=E'):Dc1 R C n s σ0 Im0 w Al l env ve lp A vR lR g E' d σ Im wx:=he▸h
theorem ResD.setB (h:ResD AS ls AB lb A7 tl A8 le Im wx)(hm:Mine (zn R C σ Im) wx g)(i:Nat)(v:Value):ResD AS ls AB lb A7 tl A8 le Im (wx.setCell ⟨g,i,none⟩ v):=
 h.kept ((Kp.refl (· = g) wx).setCell (p:=⟨g,i,none⟩) rfl v) (fun _ hb e=>hm.2.2 (e▸hb)) (fun _ h=>h)
theorem yS1 {z:Zn}{w0:World}{A':Option Addr}{xs:List Tx}(hz:z.Ok w0)(hs:Sl wx wx.heap.size 1 encS A' xs)(hn:∀ a,A'=some a→w0.heap.size≤a.block):∀ q,(xs≠[]∧∃ ad,A'=some ad∧ad.block=q)→Mine z wx q∧w0.heap.size≤q:=fun q ⟨hnt,ad,h1,h2⟩=>by
 have h3:=hn ad h1;have h4:ad.block < wx.heap.size:=by
  rcases hs with h5 | ⟨b5,o5,h5,h6,_⟩
  ·exact absurd h5 hnt
  ·exact vZ
 rw[h2] at h3 h4;exact⟨hz.new_ h3 h4,h3⟩
theorem sl_fr {A':Option Addr}{xs:List Tx}(hs:Sl wx wx.heap.size 1 encS A' xs)(hl:xs.length≤1048576):SlI (fun q=>Im q∨(xs≠[]∧∃ ad,A'=some ad∧ad.block=q)) wx 1 encS A' xs:=by
 refine⟨hs,hl,?_⟩;by_cases hnt:xs=[]
 ·exact .inl hnt
 ·exact xP
theorem Dc1.clones {v0 v1 v2 v3 v4 v5 v6 v7 v8 v9 v10:Value}{w6 w7 w8:World}{c7 c8:Nat}(h:Dc1 R C n s σ0 Im0 w Al l env ve lp A vR lR g #[v0,v1,v2,v3,v4,v5,v6,v7,v8,v9,v10] d σ Im w6)(r:ResD AS ls AB lb none [] none [] Im w6)
  (hl8:le.length≤1048576)(hl7:tl.length≤1048576)(hS8:SlN w7 w7.heap.size 1 encS A8 le)(hb8:Below w6.heap.size w6 w7)(hn8:∀ a,A8=some a→w6.heap.size≤a.block)(hS7:SlN w8 w8.heap.size 1 encS A7 tl)(hb7:Below w7.heap.size w7 w8)(hn7:∀ a,A7=some a→w7.heap.size≤a.block) :
  ∃ Im9:Nat→Prop,Dc1 R C n s σ0 Im0 w Al l env ve lp A vR lR g #[v0,v1,v2,v3,v4,v5,v6,.slice A7 tl.length c7,.slice A8 le.length c8,v9,v10] d σ Im9 ((w8.setCell ⟨g,8,none⟩ (.slice A8 le.length c8)).setCell ⟨g,7,none⟩ (.slice A7 tl.length c7))∧
    ResD AS ls AB lb A7 tl A8 le Im9 ((w8.setCell ⟨g,8,none⟩ (.slice A8 le.length c8)).setCell ⟨g,7,none⟩ (.slice A7 tl.length c7)):=by
 have hg:=h.m.1;have hF8:=yS1 h.x.fr.st.zo hS8.1 hn8;have D8:=(h.below hb8).freeze (F:=fun q=>le≠[]∧∃ ad,A8=some ad∧ad.block=q) fun q hq=>⟨(hF8 q hq).1,by have:=(hF8 q hq).2;omega⟩;have r8:=r.kept (N:=fun _=>False) (Kp.ofBelow hb8 _) (fun _ _ h=>h) (fun q (h:Im q)=>(Or.inl h:Im q∨(le≠[]∧∃ ad,A8=some ad∧ad.block=q)));have R8:ResD AS ls AB lb none [] A8 le _ w7:=⟨r8.sl,r8.ok,r8.bl,r8.bo,r8.tl,sl_fr (Im:=Im) hS8.1 hl8⟩;have hg7:=D8.m.1;have hF7:=yS1 D8.x.fr.st.zo hS7.1 hn7;have D7:=(D8.below hb7).freeze (F:=fun q=>tl≠[]∧∃ ad,A7=some ad∧ad.block=q) fun q hq=>⟨(hF7 q hq).1,by have:=(hF7 q hq).2;omega⟩;have r7:=R8.kept (N:=fun _=>False) (Kp.ofBelow hb7 _) (fun _ _ h=>h) (fun q (h:Im q∨(le≠[]∧∃ ad,A8=some ad∧ad.block=q))=>(Or.inl h:(Im q∨(le≠[]∧∃ ad,A8=some ad∧ad.block=q))∨(tl≠[]∧∃ ad,A7=some ad∧ad.block=q)));have R7:ResD AS ls AB lb A7 tl A8 le _ w8:=⟨r7.sl,r7.ok,r7.bl,r7.bo,sl_fr (Im:=fun q=>Im q∨(le≠[]∧∃ ad,A8=some ad∧ad.block=q)) hS7.1 hl7,r7.le⟩;have D9:=D7.setB 8 (.slice A8 le.length c8);have R9:=R7.setB D7.m 8 (.slice A8 le.length c8);exact⟨_,(D9.setB 7 (.slice A7 tl.length c7)).cast (by simp),R9.setB D9.m 7 (.slice A7 tl.length c7)⟩
end
def bodyD:DA→List DA
 | .mk _ _ _ _ _ _ _ _ _ _ body _ _ _ _ _ _ _ _=>body
section
variable {X:Type}{R:RF}{C:Clo X}{n:Nat}{U:UseR X}
set_option maxRecDepth 100000 in
set_option maxHeartbeats 16000000 in
theorem zF9 (l:List DA)(hl:∀ d∈l,(∀ x∈zU3 d,zO1 R C n U x)∧zQ2 R C n U (bodyD d)):zQ2 R C n U l:=by
 intro σ Im w s env v lp Al cl A c file hS hSl hOk hE hK hne hlp hf hd hdl;obtain⟨vA,rfl⟩:∃ s,v=.pointer (some ⟨s,0,none⟩):=by
  cases env with
  | nil=>exact absurd rfl hne
  | cons x r=>exact⟨x.blk,hE.1.1⟩
 have X0:Dc0 R C n (s+vDs (l.drop 0)) σ Im w Al l env (.pointer (some ⟨vA,0,none⟩)) lp A σ Im w:=⟨(Fr.start (hS.less (by rw[List.drop_zero];exact Nat.le_refl _) qJ)),hSl,hOk,hE,hK,hlp⟩;have HX0:=qK X0;have hll:=hSl.2.1;have HF:=qK hf;have HNe:=qK hne;have HL:=qK hl;have HD1:=qK hd;have HD2:=qK hdl;clear hS hSl hOk hE hK hne hlp hf hd hdl hl X0;go_enter Tryz.func76,Tryz.ntmps76
 go_wp2;go_loopw [11,20] (fun vS iv wr=>∃ (i:Nat) (σi:GS X) (Imi:Nat→Prop) (l':List DA) (AS:Option Addr) (cS:Nat),i≤l.length∧iv=.int .i64 (i:Nat)∧vS=.slice AS i cS∧Hid (l'.length=i)∧Hid (Dc0 R C n (s+vDs (l.drop i)) σ Im w Al l env (.pointer (some ⟨vA,0,none⟩)) lp A σi Imi wr)∧Hid (∀ q,(Value.slice AS i cS).ownBlock=some q→Mine (zn R C σi Imi) wr q∧w.heap.size≤q)∧Hid (Acc wr 0 71 11 (.slice AS i cS) l'.length (l'.flatMap encD)∧OkIds Imi wr l')∧Hid (zX6 R U (l.take i) env lp file σ σi l')) (fun _ iv _=>l.length-(intOf iv).toNat)
 case atStart=>exact⟨0,σ,Im,[],none,0,Nat.zero_le _,rfl,rfl,qK rfl,HX0,qK (fun q hq=>by cases hq),qK ⟨Acc.nil_ _ _ _ _,trivial⟩,qK (by rw[List.take_zero,zX6];exact⟨rfl,rfl⟩)⟩
 case round=>
  obtain⟨i,σi,Imi,l',AS,cS,hi,rfl,rfl,HLn,Xi,Mi,Ri,Vi⟩:=hrel;obtain⟨wo,hwo⟩:∃ wo,wo=wr:=⟨_,rfl⟩;subst hwo;by_cases hlt:i < l.length
  ·have hlt':(i:Int) < (l.length:Int):=by omega
   have HM:=qK (List.getElem_mem hlt);have HTk:=qK (List.take_succ_eq_append_getElem hlt);have HDr:=qK (List.drop_eq_getElem_cons hlt);have HIx:=qK (OkIds.at_ Xi.out.ok (List.getElem_mem hlt));obtain⟨bb,off,hA,hbW,hc⟩:=Xi.out.sl.1.at_ hlt;generalize l[i]=x at hc HM HTk HDr HIx;obtain⟨dk,dpr,dl,da,db,dAs,dcs,dsubs,dAb,dcb,dbody,dAt,dct,dtail,dAl,dcl,dlead,dtr,dpos⟩:=x;have c0:=hc 0 _ rfl;have c1:=hc 1 _ rfl;have c2:=hc 2 _ rfl;have c3:=hc 3 _ rfl;have c4:=hc 4 _ rfl;have c5:=hc 5 _ rfl;have c6:=hc 6 _ rfl;have c7:=hc 7 _ rfl;have c8:=hc 8 _ rfl;have c9:=hc 9 _ rfl;have c10:=hc 10 _ rfl;simp only[Nat.add_zero] at c0;clear hc;have HAl:=qK hA;have hba:=(Below.refl wo.heap.size wo).alloc qJ (.cells #[.int .i64 dk,.int .i64 dpr,.string ⟨dl.toArray⟩,.string ⟨da.toArray⟩,.string ⟨db.toArray⟩,.slice dAs dsubs.length dcs,.slice dAb dbody.length dcb,.slice dAt dtail.length dct,.slice dAl dlead.length dcl,.string ⟨dtr.toArray⟩,.int .i64 dpos] 71);have hsz:=Xi.out.fr.sp.kp.size;have D0:=qK (show Dc1 R C n (s+vDs (l.drop i)) σ Im w Al l env (.pointer (some ⟨vA,0,none⟩)) lp A (.slice AS i cS) l' wo.heap.size #[.int .i64 dk,.int .i64 dpr,.string ⟨dl.toArray⟩,.string ⟨da.toArray⟩,.string ⟨db.toArray⟩,.slice dAs dsubs.length dcs,.slice dAb dbody.length dcb,.slice dAt dtail.length dct,.slice dAl dlead.length dcl,.string ⟨dtr.toArray⟩,.int .i64 dpos] (.mk dk dpr dl da db dAs dcs dsubs dAb dcb dbody dAt dct dtail dAl dcl dlead dtr dpos) σi Imi (wo.alloc (.cells #[.int .i64 dk,.int .i64 dpr,.string ⟨dl.toArray⟩,.string ⟨da.toArray⟩,.string ⟨db.toArray⟩,.slice dAs dsubs.length dcs,.slice dAb dbody.length dcb,.slice dAt dtail.length dct,.slice dAl dlead.length dcl,.string ⟨dtr.toArray⟩,.int .i64 dpos] 71)) from
    ⟨Xi.out.below hba,(show RowD R C w (.slice AS i cS) l' σi Imi wo from⟨Ri.out.1,Mi.out,Ri.out.2⟩).below hba,Blk.new wo 71 #[.int .i64 dk,.int .i64 dpr,.string ⟨dl.toArray⟩,.string ⟨da.toArray⟩,.string ⟨db.toArray⟩,.slice dAs dsubs.length dcs,.slice dAb dbody.length dcb,.slice dAt dtail.length dct,.slice dAl dlead.length dcl,.string ⟨dtr.toArray⟩,.int .i64 dpos],Xi.out.fr.st.zo.new_ qJ (by simp),fun q hq=>(Mi.out q hq).1.1,hsz,(zZ2 (N:=fun _=>False) (Kp.ofBelow hba _) (fun _ _ h=>h) (fun _ h=>h)).2.1 _ HIx.out⟩)
   have hls:dsubs.length≤1048576:=HIx.out.2.1.2.1;have hlb:dbody.length≤1048576:=HIx.out.2.2.2.1.2.1;have hlt7:dtail.length≤1048576:=HIx.out.2.2.2.2.2.1.2.1;have hlt8:dlead.length≤1048576:=HIx.out.2.2.2.2.2.2.2.1;have HB:=qK (show da.length≤maxLen∧db.length≤maxLen∧dtr.length≤maxLen∧dl.length≤maxLen∧(dk=4→dsubs.length=1) from⟨HIx.out.1.1.2.1,HIx.out.1.1.2.2.1,HIx.out.1.1.2.2.2,HIx.out.1.1.1,HIx.out.1.2⟩);have HV:=qK (show hEs dsubs+1≤hDs l∧hDs dbody+1≤hDs l from by have h:=hD_le HM.out;rw[hD] at h;omega);have HLl:=qK hll;have HLs:=qK (show dsubs.length≤1048576∧dbody.length≤1048576∧dtail.length≤1048576∧dlead.length≤1048576 from⟨hls,hlb,hlt7,hlt8⟩);go_upto_region 5 with fail
   clear c0 c1 c2 c3 c4 c5 c6 c7 c8 c9 c10 hA hbW hba hsz HAl hlb hlt7 hlt8 Xi Ri Mi HIx;generalize wo.alloc (.cells #[.int .i64 dk,.int .i64 dpr,.string ⟨dl.toArray⟩,.string ⟨da.toArray⟩,.string ⟨db.toArray⟩,.slice dAs dsubs.length dcs,.slice dAb dbody.length dcb,.slice dAt dtail.length dct,.slice dAl dlead.length dcl,.string ⟨dtr.toArray⟩,.int .i64 dpos] 71)=wb at D0 ⊢;obtain⟨d0,d1,d2,d3,d4,d5,d6,d7,d8,d9,d10⟩:=zS1 D0.out.b;go_wp2;clear d0 d1 d2 d3 d4 d5 d6 d7 d8 d9 d10;go_loopw [14,27] (fun vT jv wq=>∃ (j:Nat) (σj:GS X) (Imj:Nat→Prop) (m':List EA) (AT:Option Addr) (cT:Nat),j≤dsubs.length∧jv=.int .i64 (j:Nat)∧vT=.slice AT j cT∧Hid (m'.length=j)∧Hid (Dc1 R C n (s+vDs (l.drop (i+1))+vDs dbody+wEs (dsubs.drop j)) σ Im w Al l env (.pointer (some ⟨vA,0,none⟩)) lp A (.slice AS i cS) l' wo.heap.size #[.int .i64 dk,.int .i64 dpr,.string ⟨dl.toArray⟩,.string ⟨da.toArray⟩,.string ⟨db.toArray⟩,.slice dAs dsubs.length dcs,.slice dAb dbody.length dcb,.slice dAt dtail.length dct,.slice dAl dlead.length dcl,.string ⟨dtr.toArray⟩,.int .i64 dpos] (.mk dk dpr dl da db dAs dcs dsubs dAb dcb dbody dAt dct dtail dAl dcl dlead dtr dpos) σj Imj wq)∧Hid (RowE R C wo (.slice AT j cT) m' σj Imj wq)∧Hid (zW9 R U (dsubs.take j) 0 [] env lp file σi σj m')) (fun _ jv _=>dsubs.length-(intOf jv).toNat)
   case atStart=>
    refine⟨0,σi,Imi,[],none,0,Nat.zero_le _,rfl,rfl,qK rfl,qK (D0.out.less ?_),qK RowE.nil_,qK (by rw[List.take_zero,zW9];exact⟨rfl,rfl⟩)⟩;rw[HDr.out,vDs,vD,List.drop_zero];omega
   case round=>
    obtain⟨j,σj,Imj,m',AT,cT,hj,rfl,rfl,HLm,Dj,Tj,Vj⟩:=hrel;obtain⟨d0,d1,d2,d3,d4,d5,d6,d7,d8,d9,d10⟩:=zS1 Dj.out.b;by_cases hjl:j < dsubs.length
    ·have hjl':(j:Int) < (dsubs.length:Int):=by omega
     have HMx:=qK (List.getElem_mem hjl);have HTx:=qK (List.take_succ_eq_append_getElem hjl);have HDx:=qK (List.drop_eq_getElem_cons hjl);have HIy:=qK (OkIs.at_ Dj.out.i.2.2.1 (List.getElem_mem hjl));obtain⟨bb2,off2,hA2,hbW2,hc⟩:=Dj.out.i.2.1.1.at_ hjl;generalize dsubs[j]=x at hc HMx HTx HDx HIy;obtain⟨xk,xt,xn,xa,xb,xAs,xcs,xsubs,xAd,xcd,xdecls,xAt,xct,xtail,xpos⟩:=x;have c0:=hc 0 _ rfl;have c1:=hc 1 _ rfl;have c2:=hc 2 _ rfl;have c3:=hc 3 _ rfl;have c4:=hc 4 _ rfl;have c5:=hc 5 _ rfl;have c6:=hc 6 _ rfl;have c7:=hc 7 _ rfl;have c8:=hc 8 _ rfl;simp only[Nat.add_zero] at c0;clear hc;rw[hA2] at d5;have hbx:=(Below.refl wr.heap.size wr).alloc qJ (.cells #[.int .i64 xk,.string ⟨xt.toArray⟩,.int .i64 xn,.string ⟨xa.toArray⟩,.string ⟨xb.toArray⟩,.slice xAs xsubs.length xcs,.slice xAd xdecls.length xcd,.slice xAt xtail.length xct,.int .i64 xpos] 67);have Dx:=qK (Dj.out.below hbx);have Tx:=qK (Tj.out.below hbx);have Iy:=qK ((zZ2 (N:=fun _=>False) (Kp.ofBelow hbx _) (fun _ _ h=>h) (fun _ h=>h)).1 _ HIy.out);have Ex:=qK (Blk.new wr 67 #[.int .i64 xk,.string ⟨xt.toArray⟩,.int .i64 xn,.string ⟨xa.toArray⟩,.string ⟨xb.toArray⟩,.slice xAs xsubs.length xcs,.slice xAd xdecls.length xcd,.slice xAt xtail.length xct,.int .i64 xpos]);have Zx:=qK (show wo.heap.size+2≤(wr.alloc (.cells #[.int .i64 xk,.string ⟨xt.toArray⟩,.int .i64 xn,.string ⟨xa.toArray⟩,.string ⟨xb.toArray⟩,.slice xAs xsubs.length xcs,.slice xAd xdecls.length xcd,.slice xAt xtail.length xct,.int .i64 xpos] 67)).heap.size from by have:=Dj.out.m.1;simp;omega);go_upto_region 9 with fail
     clear c0 c1 c2 c3 c4 c5 c6 c7 c8 hA2 hbW2 hbx;clear d0 d1 d2 d3 d4 d5 d6 d7 d8 d9 d10;generalize wr.alloc (.cells #[.int .i64 xk,.string ⟨xt.toArray⟩,.int .i64 xn,.string ⟨xa.toArray⟩,.string ⟨xb.toArray⟩,.slice xAs xsubs.length xcs,.slice xAd xdecls.length xcd,.slice xAt xtail.length xct,.int .i64 xpos] 67)=wz at Dx Tx Iy Ex Zx ⊢;have hwd:wEs (dsubs.drop j)=wE (.mk xk xt xn xa xb xAs xcs xsubs xAd xcd xdecls xAt xct xtail xpos)+wEs (dsubs.drop (j+1)):=by rw[HDx.out,wEs]
     have hhx:hE (.mk xk xt xn xa xb xAs xcs xsubs xAd xcd xdecls xAt xct xtail xpos)≤hEs dsubs:=hE_le HMx.out;have cX:=qK ((HL.out _ HM.out).1 _ HMx.out σj Imj wz (s+vDs (l.drop (i+1))+vDs dbody+wEs (dsubs.drop (j+1))) env (.pointer (some ⟨vA,0,none⟩)) lp A c file (Dx.out.x.fr.st.less qG qJ) Iy.out Dx.out.x.en Dx.out.x.kn HNe.out Dx.out.x.lp HF.out (by have:=HD1.out;have:=HV.out;omega) (by have:=HD2.out;have:=HV.out;omega));obtain⟨q0,q1,q2,q3,q4,q5,q6,q7,q8⟩:=zZ6 Ex.out;go_wp2_with fail
     refine cX.out.mono ?_;rintro e w3 ⟨σ',Im3,e',rfl,hV3,hS3,hQ3,hG3,hO3⟩;have D3:=qK ((Dx.out.less (s':=s+vDs (l.drop (i+1))+vDs dbody+wEs (dsubs.drop (j+1))) qG).step hS3 hQ3 hG3);have T3:=qK (Tx.out.step Dx.out.x.fr.st.zo hQ3);have V3:=qK hV3;have O3:=qK hO3;have Z3:=qK (show wo.heap.size+2≤w3.heap.size from Nat.le_trans Zx.out hQ3.kp.size);have hl1:m'.length=j:=HLm.out;clear cX hV3 hS3 hQ3 hG3 hO3 q0 q1 q2 q3 q4 q5 q6 q7 q8 hwd hhx Dx Tx Iy Ex Zx;cases e' with
     | mk yk yt yn ya yb yAs ycs ysubs yAd ycd ydecls yAt yct ytail ypos=>
       dsimp only[encE];go_wp2_with (at_builtin;refine zT3 _ rfl (.tmp 31) (.tmp 38) 65 rfl 0 67 9 144 elExpr _ _ _ rfl (T3.out.ac.alloc _) _ 1 _ _ rfl (Src.lit _ 9 _ _ 1 rfl) (by simp[Value.oneCell']) (by simp only[maxLen];omega) qG (Nat.zero_le _) ?_;intro v' w4 hacc' hg' _ _ hob')
       obtain⟨T4,hK4⟩:=T3.out.app D3.out.x.fr.st.zo Z3.out O3.out (by simpa[encE] using hacc') hg' hob';have D4:=D3.out.write hK4 fun q hq=>⟨(T3.out.ma q hq).1,by have:=(T3.out.ma q hq).2;omega⟩;obtain⟨A4,c4,hv4⟩:=hacc'.shape;subst hv4;refine⟨⟨j+1,σ',Im3,m'++ [.mk yk yt yn ya yb yAs ycs ysubs yAd ycd ydecls yAt yct ytail ypos],A4,c4,by omega,by go_num,by rw[HLm.out],qK (by rw[List.length_append,HLm.out];rfl),qK D4,qK (by rw[←hl1];exact T4),qK ?_⟩,by simp[intOf];omega⟩;rw[HTx.out];refine zF7 Vj.out ?_;rw[show (if 0+(dsubs.take j).length=0 then[] else[])=([]:List Tx) from by split <;> rfl,List.append_nil];exact V3.out
    ·obtain rfl:j=dsubs.length:=by omega
     have Vj2:=qK (show zW9 R U dsubs 0 [] env lp file σi σj m' from by have h:=Vj.out;rw[List.take_length] at h;exact h);have S5:=(show RowE R C wo (.slice AT m'.length cT) m' σj Imj wr from by rw[HLm.out];exact Tj.out).resD (by rw[HLm.out];exact hls);rw[HLm.out] at S5;have D5:=(Dj.out.less (s':=s+vDs (l.drop (i+1))+vDs dbody) qG).freeze (F:=fun q=>(Value.slice AT dsubs.length cT).ownBlock=some q) fun q hq=>⟨(Tj.out.ma q hq).1,by have:=(Tj.out.ma q hq).2;omega⟩;obtain⟨Im5,hIm5⟩:∃ Im5:Nat→Prop,Im5=fun b=>Imj b∨(Value.slice AT dsubs.length cT).ownBlock=some b:=⟨_,rfl⟩;rw[←hIm5] at D5 S5;have HD5:=qK D5;have HS5:=qK S5;clear hIm5 D5 S5 Dj Tj Vj;obtain⟨b6,hb6⟩:∃ b6,(dk == 6)=b6:=⟨_,rfl⟩;have H6:=qK hb6;go_upto_if 44 with fail
     clear hb6;clear d0 d1 d2 d3 d4 d5 d6 d7 d8 d9 d10;go_cut [17] from 45 to 49 (fun cv wx=>∃ (Im2:Nat→Prop) (A2:Option Addr) (n2 c2:Nat),cv=.slice A2 n2 c2∧Hid (n2=(lp++if dk=6 then[da,db] else[]).length)∧Hid (Dc1 R C n (s+vDs (l.drop (i+1))+vDs dbody) σ Im w Al l env (.pointer (some ⟨vA,0,none⟩)) lp A (.slice AS i cS) l' wo.heap.size #[.int .i64 dk,.int .i64 dpr,.string ⟨dl.toArray⟩,.string ⟨da.toArray⟩,.string ⟨db.toArray⟩,.slice dAs dsubs.length dcs,.slice dAb dbody.length dcb,.slice dAt dtail.length dct,.slice dAl dlead.length dcl,.string ⟨dtr.toArray⟩,.int .i64 dpos] (.mk dk dpr dl da db dAs dcs dsubs dAb dcb dbody dAt dct dtail dAl dcl dlead dtr dpos) σj Im2 wx)∧Hid (ResD AT m' none [] none [] none [] Im2 wx)∧Hid (SlI Im2 wx 1 encS A2 (lp++if dk=6 then[da,db] else[])))
     case first=>
      cases b6
      ·have HNm:=qK (show (lp++if dk=6 then[da,db] else[])=lp from by
        have h:dk≠6:=by have:=H6.out;simpa using this
        rw[if_neg h,List.append_nil])
       go_wp2_with fail
       go_meet
       case rel=>exact⟨Im5,A,_,c,rfl,qK (by rw[HNm.out]),HD5,HS5,qK (by rw[HNm.out];exact HD5.out.x.lp)⟩
      ·have HNm:=qK (show (lp++if dk=6 then[da,db] else[])=lp++ [da,db] from by
        have h:dk=6:=by have:=H6.out;simpa using this
        rw[if_pos h])
       obtain⟨d0,d1,d2,d3,d4,d5,d6,d7,d8,d9,d10⟩:=zS1 HD5.out.b;have hd2:=HD2.out;go_wp2_with fail
       have hbL:=(Below.refl wr.heap.size wr).alloc qJ (.cells #[.slice A lp.length c,.slice (some ⟨wo.heap.size,3,none⟩) 2 2] 44);have hsL:(wr.alloc (.cells #[.slice A lp.length c,.slice (some ⟨wo.heap.size,3,none⟩) 2 2] 44)).heap.size=wr.heap.size+1:=by simp
       have cN:=yX4 wr.heap.size 44 A c lp (some ⟨wo.heap.size,3,none⟩) 2 [da,db] (wr.alloc (.cells #[.slice A lp.length c,.slice (some ⟨wo.heap.size,3,none⟩) 2 2] 44)) (Blk.new wr _ _) ((HD5.out.x.lp.1.below hbL).more hbL.size) (sl_two (HD5.out.b.alloc _) (zY1 hbL d3) (zY1 hbL d4)) qG (by simp) (by simp);refine cN.mono ?_;rintro e w5 ⟨A2,c2,rfl,hS5,hb5,hn5⟩;have hb6:Below wr.heap.size wr w5:=hbL.trans (hb5.mono hbL.size);have hF5:=yS1 (A':=A2) (xs:=lp++ [da,db]) HD5.out.x.fr.st.zo hS5.1 (fun a ha=>by have:=hn5 a ha;rw[hsL] at this;omega);have hgs:=HD5.out.m.1;have D6:=(HD5.out.below hb6).freeze (F:=fun q=>lp++ [da,db]≠[]∧∃ ad,A2=some ad∧ad.block=q) fun q hq=>⟨(hF5 q hq).1,by have:=(hF5 q hq).2;omega⟩;have S6:=HS5.out.kept (N:=fun _=>False) (Kp.ofBelow hb6 _) (fun _ _ h=>h) (fun q (h:Im5 q)=>(Or.inl h:Im5 q∨(lp++ [da,db]≠[]∧∃ ad,A2=some ad∧ad.block=q)));have HC:=qK (show ∃ (Im2:Nat→Prop) (A':Option Addr) (n2 c':Nat),Value.slice A2 (lp++ [da,db]).length c2=.slice A' n2 c'∧Hid (n2=(lp++if dk=6 then[da,db] else[]).length)∧Hid (Dc1 R C n (s+vDs (l.drop (i+1))+vDs dbody) σ Im w Al l env (.pointer (some ⟨vA,0,none⟩)) lp A (.slice AS i cS) l' wo.heap.size #[.int .i64 dk,.int .i64 dpr,.string ⟨dl.toArray⟩,.string ⟨da.toArray⟩,.string ⟨db.toArray⟩,.slice dAs dsubs.length dcs,.slice dAb dbody.length dcb,.slice dAt dtail.length dct,.slice dAl dlead.length dcl,.string ⟨dtr.toArray⟩,.int .i64 dpos] (.mk dk dpr dl da db dAs dcs dsubs dAb dcb dbody dAt dct dtail dAl dcl dlead dtr dpos) σj Im2 w5)∧Hid (ResD AT m' none [] none [] none [] Im2 w5)∧Hid (SlI Im2 w5 1 encS A' (lp++if dk=6 then[da,db] else[])) from
        ⟨_,A2,_,c2,rfl,qK (by rw[HNm.out]),qK D6,qK S6,qK (by rw[HNm.out];exact sl_fr (Im:=Im5) hS5.1 (by rw[List.length_append,List.length_cons,List.length_cons,List.length_nil];omega))⟩)
       clear cN hS5 hb5 hn5 hb6 hF5 D6 S6 hbL hsL hgs;clear d0 d1 d2 d3 d4 d5 d6 d7 d8 d9 d10;generalize hn2:(lp++ [da,db]).length=nn2 at HC;go_wp2_with fail
       go_meet
       case rel=>exact HC.out
     obtain⟨Im2,A2,n2,c2,rfl,HN2,D2,S2,L2⟩:=hcut;obtain⟨lp2,hlp2⟩:∃ lp2,lp2=(lp++if dk=6 then[da,db] else[]):=⟨_,rfl⟩;have HLp:=qK hlp2;rw[←hlp2] at HN2 L2;obtain rfl:=HN2.out;have hlen2:lp2.length≤lp.length+2:=by
      rw[hlp2,List.length_append];split <;> simp
     have HLen:=qK hlen2;clear hlp2 HN2 hlen2;obtain⟨d0,d1,d2,d3,d4,d5,d6,d7,d8,d9,d10⟩:=zS1 D2.out.b;have f5:=D2.out.b.free 5;have D6:=qK ((D2.out.setB 5 (.slice AT dsubs.length cT)).cast (E':=#[.int .i64 dk,.int .i64 dpr,.string ⟨dl.toArray⟩,.string ⟨da.toArray⟩,.string ⟨db.toArray⟩,.slice AT dsubs.length cT,.slice dAb dbody.length dcb,.slice dAt dtail.length dct,.slice dAl dlead.length dcl,.string ⟨dtr.toArray⟩,.int .i64 dpos]) (by simp));have S6:=qK (S2.out.setB D2.out.m 5 (.slice AT dsubs.length cT));have L6:=qK (L2.out.kept ((Kp.refl (· = wo.heap.size) wc).setCell (p:=⟨wo.heap.size,5,none⟩) rfl (.slice AT dsubs.length cT)) (fun q hq e=>D2.out.m.2.2 (e▸hq)) (fun _ h=>h));go_upto_region 15 with fail
     clear d0 d1 d2 d3 d4 d5 d6 d7 d8 d9 d10;clear f5 D2 S2 L2;generalize wc.setCell ⟨wo.heap.size,5,none⟩ (.slice AT dsubs.length cT)=w5 at D6 S6 L6 ⊢;have cB:=qK ((HL.out _ HM.out).2 σj Im2 w5 (s+vDs (l.drop (i+1))) env (.pointer (some ⟨vA,0,none⟩)) lp2 dAb dcb A2 c2 file (D6.out.x.fr.st.less (by show _+vDs dbody≤_;exact Nat.le_refl _) qJ) D6.out.i.2.2.2.1 D6.out.i.2.2.2.2.1 D6.out.x.en D6.out.x.kn HNe.out L6.out HF.out (by show _+hDs dbody≤_;have:=HD1.out;have:=HV.out;omega) (by show _+2*hDs dbody≤_;have:=HD2.out;have:=HV.out;have:=HLen.out;omega));obtain⟨d0,d1,d2,d3,d4,d5,d6,d7,d8,d9,d10⟩:=zS1 D6.out.b;go_wp2_with fail
     refine cB.out.mono ?_;rintro e w6 ⟨σ',ImB,lbs,AB,cB',rfl,hVd,hSt,hSp,hGr,hSl,hOk⟩;clear d0 d1 d2 d3 d4 d5 d6 d7 d8 d9 d10;have DB:=(D6.out.less (s':=s+vDs (l.drop (i+1))) qG).step hSt hSp hGr;have SB:=S6.out.kept hSp.kp (fun q hq hm=>(D6.out.x.fr.st.zo.mu q hm).2 hq) hSp.im;have SE0:ResD AT m' AB lbs none [] none [] ImB w6:=⟨SB.sl,SB.ok,hSl,hOk,SB.tl,SB.le⟩;have DE:=qK ((DB.setB 6 (.slice AB lbs.length cB')).cast (E':=#[.int .i64 dk,.int .i64 dpr,.string ⟨dl.toArray⟩,.string ⟨da.toArray⟩,.string ⟨db.toArray⟩,.slice AT dsubs.length cT,.slice AB lbs.length cB',.slice dAt dtail.length dct,.slice dAl dlead.length dcl,.string ⟨dtr.toArray⟩,.int .i64 dpos]) (by simp));have SE:=qK (SE0.setB DB.m 6 (.slice AB lbs.length cB'));have VB:=qK hVd;obtain⟨d0,d1,d2,d3,d4,d5,d6,d7,d8,d9,d10⟩:=zS1 DB.b;have f6:=DB.b.free 6;clear hVd hSt hSp hGr hSl hOk DB SB SE0 cB;go_upto_region 16 with fail
     clear d0 d1 d2 d3 d4 d5 d6 d7 d8 d9 d10;clear f6 D6 S6 L6;generalize w6.setCell ⟨wo.heap.size,6,none⟩ (.slice AB lbs.length cB')=wE at DE SE ⊢;go_cut [] from 60 to 67 (fun wx=>∃ (Im9:Nat→Prop) (A7 A8:Option Addr) (c7 c8:Nat),Hid (Dc1 R C n (s+vDs (l.drop (i+1))) σ Im w Al l env (.pointer (some ⟨vA,0,none⟩)) lp A (.slice AS i cS) l' wo.heap.size #[.int .i64 dk,.int .i64 dpr,.string ⟨dl.toArray⟩,.string ⟨da.toArray⟩,.string ⟨db.toArray⟩,.slice AT dsubs.length cT,.slice AB lbs.length cB',.slice A7 dtail.length c7,.slice A8 dlead.length c8,.string ⟨dtr.toArray⟩,.int .i64 dpos] (.mk dk dpr dl da db dAs dcs dsubs dAb dcb dbody dAt dct dtail dAl dcl dlead dtr dpos) σ' Im9 wx)∧Hid (ResD AT m' AB lbs A7 dtail A8 dlead Im9 wx))
     case first=>
      have hbd:=(Below.refl wE.heap.size wE).drew;have DF:=qK (DE.out.below hbd);have SF:=qK (SE.out.kept (N:=fun _=>False) (Kp.ofBelow hbd _) (fun _ _ h=>h) (fun _ h=>h));have hL8:=DF.out.i.2.2.2.2.2.2.n;have hL7:=DF.out.i.2.2.2.2.2.1.n;obtain⟨d0,d1,d2,d3,d4,d5,d6,d7,d8,d9,d10⟩:=zS1 DE.out.b;have HSl:=qK (show dtail.length≤1048576∧dlead.length≤1048576 from HLs.out.2.2);clear hbd hll;have cL:=zK1 dAl dcl dlead wE.drew hL8
      go_region_with (first
       | (refine cL.mono ?_;rintro e w7 ⟨A8,c8,rfl,hS8,hb8,hn8⟩;have e7:=(DF.out.b.keep hb8).cell 7;have hT7:=SlN.more (hL7.below hb8) hb8.size;have cT:=zK1 dAt dct dtail w7 hT7)
       | (refine cT.mono ?_;rintro e w8 ⟨A7,c7,rfl,hS7,hb7,hn7⟩;have hB8:=(DF.out.b.keep hb8).keep hb7;have x8:=hB8.cell 8;have x7:=hB8.cell 7;have y8:=hB8.free 8;have y7:=hB8.free 7;have HC:=qK (DF.out.clones (c7:=c7) (c8:=c8) SF.out HSl.out.2 HSl.out.1 hS8 hb8 hn8 hS7 hb7 hn7)))
      all_goals
       obtain⟨Im9,D9,S9⟩:=HC.out;go_wp2_with fail
       go_meet
       exact⟨Im9,A7,A8,c7,c8,qK D9,qK S9⟩
     obtain⟨Im9,A7,A8,c7,c8,D9,S9⟩:=hcut;have O9:=qK (show OkId Im9 wc (.mk dk dpr dl da db AT cT m' AB cB' lbs A7 c7 dtail A8 c8 dlead dtr dpos) from⟨⟨⟨HB.out.2.2.2.1,HB.out.1,HB.out.2.1,HB.out.2.2.1⟩,fun h=>by rw[HLm.out];exact HB.out.2.2.2.2 h⟩,S9.out.sl,S9.out.ok,S9.out.bl,S9.out.bo,S9.out.tl,S9.out.le⟩);have VD:=qK (show VisD R U (.mk dk dpr dl da db dAs dcs dsubs dAb dcb dbody dAt dct dtail dAl dcl dlead dtr dpos) env lp file σi σ' (.mk dk dpr dl da db AT cT m' AB cB' lbs A7 c7 dtail A8 c8 dlead dtr dpos) from by
      rw[VisD];exact⟨σj,m',lbs,AT,cT,AB,cB',A7,c7,A8,c8,Vj2.out,by rw[←HLp.out];exact VB.out,rfl⟩)
     have Z9:=qK (show w.heap.size≤wc.heap.size from D9.out.x.fr.sp.kp.size);clear S9 SE DE HLp VB Vj2 H6 HD5 HS5;obtain⟨d0,d1,d2,d3,d4,d5,d6,d7,d8,d9,d10⟩:=zS1 D9.out.b;have hl1:l'.length=i:=HLn.out;have hll2:l.length≤1048576:=HLl.out;go_wp2_with (at_builtin;refine zT3 _ rfl (.tmp 68) (.tmp 70) 56 rfl 0 71 11 184 elDecl _ _ _ rfl (D9.out.r.ac.alloc _) _ 1 _ _ rfl (Src.lit _ 11 _ _ 1 rfl) (by simp[Value.oneCell']) (by simp only[maxLen];omega) qG (Nat.zero_le _) ?_;intro v' w4 hacc' hg' _ _ hob')
     clear d0 d1 d2 d3 d4 d5 d6 d7 d8 d9 d10;obtain⟨R4,hK4⟩:=D9.out.r.app D9.out.x.fr.st.zo Z9.out O9.out (by rw[encD,HLm.out];simpa using hacc') hg' hob';have X4:=D9.out.x.write hK4 fun q hq=>D9.out.r.ma q hq;obtain⟨A4,c4,hv4⟩:=hacc'.shape;subst hv4;have R5:=qK R4;have X5:=qK X4;clear R4 X4 hacc' hg' hob' hK4;have hl3:l'.length+1=i+1:=by omega
     refine⟨⟨i+1,σ',Im9,l'++ [.mk dk dpr dl da db AT cT m' AB cB' lbs A7 c7 dtail A8 c8 dlead dtr dpos],A4,c4,by omega,by go_num,by rw[hl1],qK (by rw[List.length_append,HLn.out];rfl),X5,qK (by rw[←hl3];exact R5.out.ma),qK (by rw[←hl3];exact⟨R5.out.ac,R5.out.ok⟩),qK ?_⟩,by simp[intOf];omega⟩;rw[HTk.out];exact yX8 Vi.out VD.out
  ·obtain rfl:i=l.length:=by omega
   have X5:=Xi.out.freeze (F:=fun q=>(Value.slice AS l.length cS).ownBlock=some q) fun q hq=>Mi.out q hq;have hsl:SlI (fun b=>Imi b∨(Value.slice AS l.length cS).ownBlock=some b) wo 11 encD AS l':=⟨(zG1 zN1 (show Acc wo 0 71 11 (.slice AS l'.length cS) l'.length (l'.flatMap encD) from by rw[HLn.out];have h:=Ri.out.1;rw[HLn.out] at h;exact h) (by decide)).2,by rw[HLn.out];exact hll,.inr fun ad had=>by subst had;exact .inr rfl⟩;have hok:=(zZ2 (N:=fun _=>False) (Kp.refl _ wo) (fun _ _ h=>h) (fun q (h:Imi q)=>(Or.inl h:Imi q∨(Value.slice AS l.length cS).ownBlock=some q))).2.2.2 _ Ri.out.2;have HR:=qK (show xX2 R C n s σ Im w (zX6 R U l env lp file σ) (.returned (.slice AS l.length cS)) wo from⟨σi,_,l',AS,cS,by rw[HLn.out],by have h:=Vi.out;rw[List.take_length] at h;exact h,X5.fr.st.less qG qJ,X5.fr.sp,X5.fr.gr,hsl,hok⟩);clear X5 hsl hok;go_wp2;go_ret;exact HR.out
end
section
variable {X:Type}{R:RF}{C:Clo X}{n:Nat}{U:UseR X}{g:Nat}{lb:Array Value}
theorem yW0 (hU:R.use=.func (.func g) #[] lb)(eg:∀ args w,(callFunc g args).run Tryz.prog w=.ok (.enter g args) w)(hC:yT9 R C n U g lb) :
  (∀ e,zO1 R C n U e)∧(∀ d,(∀ x∈zU3 d,zO1 R C n U x)∧zQ2 R C n U (bodyD d))∧(∀ l:List EA,∀ x∈l,zO1 R C n U x)∧∀ l:List DA,∀ d∈l,(∀ x∈zU3 d,zO1 R C n U x)∧zQ2 R C n U (bodyD d):=
 zY9 (fun k t m a b As cs subs Ad cd decls At ct tail pos h1 h2=>by
   by_cases hk:k=10
   ·subst hk;exact yJ0 hU eg hC t m a b As cs subs Ad cd decls At ct tail pos
   ·exact yN0 k t m a b As cs subs Ad cd decls At ct tail pos hk h1 (zF9 decls h2))
  (fun k p l a b As cs subs Ab cb body At ct tail Al cl lead tr pos h1 h2=>⟨h1,zF9 body h2⟩)
  (fun x hx=>by cases hx) (fun e l h1 h2 x hx=>by
   rcases List.mem_cons.1 hx with rfl | hx
   ·exact h1
   ·exact h2 x hx)
  (fun x hx=>by cases hx) (fun e l h1 h2 x hx=>by
   rcases List.mem_cons.1 hx with rfl | hx
   ·exact h1
   ·exact h2 x hx)
theorem yC3 (hU:R.use=.func (.func g) #[] lb)(eg:∀ args w,(callFunc g args).run Tryz.prog w=.ok (.enter g args) w)(hC:yT9 R C n U g lb)(e:EA):zO1 R C n U e:=(yW0 hU eg hC).1 e
theorem zI1 (hU:R.use=.func (.func g) #[] lb)(eg:∀ args w,(callFunc g args).run Tryz.prog w=.ok (.enter g args) w)(hC:yT9 R C n U g lb)(l:List DA):zQ2 R C n U l:=zF9 l ((yW0 hU eg hC).2.2.2 l)
end
structure PkI (Im:Nat→Prop)(w:World)(R:RF)(files:List FA):Prop where
 len:R.nF=files.length
 sl:SlI Im w 4 encF R.FA files
 ds:∀ f∈files,SlI Im w 11 encD f.Ad f.decls∧OkIds Im w f.decls
 ts:∀ f∈files,SlI Im w 1 encS f.At f.tail∧SlI Im w 3 encI f.Ai f.imps
theorem PkI.kept {Im Im' N:Nat→Prop}{w w':World}{R:RF}{files:List FA}(h:PkI Im w R files)(hk:Kp N w w')(hN:∀ b,Im b→¬ N b)(hI:∀ b,Im b→Im' b):PkI Im' w' R files:=
 ⟨h.len,h.sl.kept hk hN hI,fun f hf=>⟨(h.ds f hf).1.kept hk hN hI,(zZ2 hk hN hI).2.2.2 _ (h.ds f hf).2⟩,fun f hf=>⟨(h.ts f hf).1.kept hk hN hI,(h.ts f hf).2.kept hk hN hI⟩⟩
theorem fileC {w:World}{g:Nat}{ty:TypeId}{v0 v1 v2 v3 v4 v5 v6 v7 v8:Value}(h:Blk w g ty #[v0,v1,v2,v3,v4,v5,v6,v7,v8]):w.cell? ⟨g,1,none⟩=some v1∧w.cell? ⟨g,2,none⟩=some v2:=⟨h.cell 1,h.cell 2⟩
section
variable {X:Type}{R:RF}{C:Clo X}{n:Nat}{U:UseR X}{g:Nat}{lb:Array Value}
set_option maxRecDepth 100000 in
set_option maxHeartbeats 4000000 in
theorem yS2 (files:List FA)(i:Nat)(hi:i < files.length)(hD:zQ2 R C n U files[i].decls)(σ:GS X)(Im:Nat→Prop)(w:World)(s:Nat)(env:List ScA)(hS:St R C n (s+vDs files[i].decls) σ Im w)(hP:PkI Im w R files)
  (hE:EnvI Im w (.pointer (some ⟨R.root,0,none⟩)) env)(hK:EnvK σ.ρ.objs env)(hne:env≠[])(hf:i < R.uB.length)(hd:env.length+hDs files[i].decls≤1000) :
  Calls Tryz.prog 41 #[.pointer (some ⟨R.r,0,none⟩),.int .i64 (i:Nat)] w (xX2 R C n s σ Im w (zX6 R U files[i].decls env [] i σ)):=by
 have hb:=(Below.refl w.heap.size w).drew;have hk:=Kp.ofBelow hb (fun _=>False);have hsd:St R C n (s+vDs files[i].decls) σ Im w.drew:=hS.kept hk (fun _ h=>h.elim);have HW:=qK (show ∀ e w',xX2 R C n s σ Im w.drew (zX6 R U files[i].decls env [] i σ) e w'→xX2 R C n s σ Im w (zX6 R U files[i].decls env [] i σ) e w' from fun e w' ⟨σ',Im',l',A',c',h1,h2,h3,h4,h5,h6⟩=>⟨σ',Im',l',A',c',h1,h2,h3,Sp.trans ⟨Kp.ofBelow hb _,fun _ h=>.inl h,fun _ h=>h,fun _ h=>.inl h,hS.zo.size hb.size⟩ h4,⟨h5.ob,h5.en⟩,h6⟩);have cD:=qK (hD σ Im w.drew s env (.pointer (some ⟨R.root,0,none⟩)) [] files[i].Ad files[i].cd none 0 i hsd ((hP.ds _ (List.getElem_mem hi)).1.kept hk (fun _ _ h=>h) (fun _ h=>h)) ((zZ2 hk (fun _ _ h=>h) (fun _ h=>h)).2.2.2 _ (hP.ds _ (List.getElem_mem hi)).2) (hE.kept hk (fun _ _ h=>h) (fun _ h=>h)) hK hne (SlI.nil_ _ _ _ _ _) hf hd (by simp;omega));obtain⟨r1,r2⟩:=fileC hS.rs.rc;rw[hP.len] at r1;obtain⟨bb,off,hA,hbW,hc⟩:=hP.sl.1.at_ hi;rw[hA] at r1;have hll:=hP.sl.2.1;clear hb hk hsd hS hP hE hK hne hf hd hD;generalize files[i]=f at hc cD HW ⊢;have c2:=hc 2 _ rfl;clear hc;have hi':(i:Int) < (files.length:Int):=by omega
 go_enter Tryz.func41,Tryz.ntmps41
 go_upto_region 1 with fail
 go_still_tail 15,qF;change wpList _ _ _ _ _ w.drew;clear r1 r2 hA hbW c2;generalize w.drew=w2 at cD HW ⊢;go_wp2_with fail
 refine cD.out.mono ?_;rintro e w3 h;have h2:=qK (HW.out _ _ h);obtain⟨σ',Im',l',A',c',rfl,_⟩:=h;go_wp2;go_ret;exact h2.out
end
def clo0:Clo Unit:=⟨fun _ _=>False,fun _ _=>True,fun _ _ _=>trivial,fun _=>0⟩
def U0:UseR Unit:=fun σ e _ _ σ' e'=>σ'=σ∧e'=e
section
variable {R:RF}{n:Nat}
set_option maxRecDepth 100000 in
set_option maxHeartbeats 4000000 in
theorem cloOk0:yT9 R clo0 n U0 75 #[]:=by
 intro σ Im w s k t m a b As cs subs Ad cd decls At ct tail pos x file hS hOk hx hf hkd;clear hkd;obtain⟨w1,hw1⟩:∃ w1,(((w.alloc (.cells #[.int .i64 k,.string ⟨t.toArray⟩,.int .i64 m,.string ⟨a.toArray⟩,.string ⟨b.toArray⟩,.slice As subs.length cs,.slice Ad decls.length cd,.slice At tail.length ct,.int .i64 pos] 67)).alloc (.cells #[.int .i64 (file:Nat),.int .i64 pos,.string ⟨t.toArray⟩,.int .i64 x.1,.int .i64 x.2.1] 52)).alloc (.cells #[.int .i64 0,.string ⟨#[]⟩,.int .i64 0,.string ⟨#[]⟩,.string ⟨#[]⟩,.slice none 0 0,.slice none 0 0,.slice none 0 0,.int .i64 0] 67))=w1:=⟨_,rfl⟩;have hb1:Below w.heap.size w w1:=by rw[←hw1];exact((((Below.refl w.heap.size w).alloc qJ _).alloc (by simp) _).alloc (by simp;omega) _)
 have hz1:w1.heap.size=w.heap.size+1+1+1:=by rw[←hw1];simp
 have F1:=qK ((Fr.start (hS.less (Nat.le_succ s) qJ)).below hb1);have M1:=qK (show Mine (zn R clo0 σ Im) w1 (w.heap.size+2) from hS.zo.new_ qG qG);have B1:=qK (show Blk w1 w.heap.size 67 #[.int .i64 k,.string ⟨t.toArray⟩,.int .i64 m,.string ⟨a.toArray⟩,.string ⟨b.toArray⟩,.slice As subs.length cs,.slice Ad decls.length cd,.slice At tail.length ct,.int .i64 pos] from by rw[←hw1];exact((Blk.new w _ _).alloc _).alloc _);have Z1:=qK (show Blk w1 (w.heap.size+2) 67 #[.int .i64 0,.string ⟨#[]⟩,.int .i64 0,.string ⟨#[]⟩,.string ⟨#[]⟩,.slice none 0 0,.slice none 0 0,.slice none 0 0,.int .i64 0] from by
  rw[←hw1];have:=Blk.new ((w.alloc (.cells #[.int .i64 k,.string ⟨t.toArray⟩,.int .i64 m,.string ⟨a.toArray⟩,.string ⟨b.toArray⟩,.slice As subs.length cs,.slice Ad decls.length cd,.slice At tail.length ct,.int .i64 pos] 67)).alloc (.cells #[.int .i64 (file:Nat),.int .i64 pos,.string ⟨t.toArray⟩,.int .i64 x.1,.int .i64 x.2.1] 52)) 67 #[.int .i64 0,.string ⟨#[]⟩,.int .i64 0,.string ⟨#[]⟩,.string ⟨#[]⟩,.slice none 0 0,.slice none 0 0,.slice none 0 0,.int .i64 0];rw[World.size_alloc,World.size_alloc] at this;exact this)
 have O1:=qK ((zZ2 (Kp.ofBelow hb1 (fun _=>False)) (fun _ _ h=>h) (fun _ h=>h)).1 _ hOk);clear hS hOk hf hb1 hz1;simp only[encE,List.append_toArray,List.cons_append,List.nil_append];change Calls Tryz.prog 75 #[.agg #[.int .i64 k,.string ⟨t.toArray⟩,.int .i64 m,.string ⟨a.toArray⟩,.string ⟨b.toArray⟩,.slice As subs.length cs,.slice Ad decls.length cd,.slice At tail.length ct,.int .i64 pos],.agg #[.int .i64 (file:Nat),.int .i64 pos,.string ⟨t.toArray⟩,.int .i64 x.1,.int .i64 x.2.1],yT6 x.2.2] w _;go_enter Tryz.func75,Tryz.ntmps75
 go_upto_region 1 with fail
 clear hw1;obtain⟨e0,e1,e2,e3,e4,e5,e6,e7,e8⟩:=zZ6 B1.out;obtain⟨y0,y1,y2,y3,y4,y5,y6,y7,y8⟩:=zZ6 Z1.out;obtain⟨zf0,zf1,zf2,zf3,zf4,zf5,zf6,zf7,zf8⟩:=zF8 Z1.out;go_wp2;clear e0 e1 e2 e3 e4 e5 e6 e7 e8 y0 y1 y2 y3 y4 y5 y6 y7 y8 zf0 zf1 zf2 zf3 zf4 zf5 zf6 zf7 zf8;obtain⟨F5,hB5,hK5⟩:=F1.out.store9 qG M1.out Z1.out (.int .i64 k) (.string ⟨t.toArray⟩) (.int .i64 m) (.string ⟨a.toArray⟩) (.string ⟨b.toArray⟩) (.slice As subs.length cs) (.slice Ad decls.length cd) (.slice At tail.length ct) (.int .i64 pos);have hn5:∀ q,Im q→¬ q=w.heap.size+2:=fun q hq e=>M1.out.2.2 (e▸hq);have HR:=qK (show RetE R clo0 n s σ Im w (fun σ' e'=>U0 σ (.mk k t m a b As cs subs Ad cd decls At ct tail pos) x file σ' e') (.returned (.agg #[.int .i64 k,.string ⟨t.toArray⟩,.int .i64 m,.string ⟨a.toArray⟩,.string ⟨b.toArray⟩,.slice As subs.length cs,.slice Ad decls.length cd,.slice At tail.length ct,.int .i64 pos])) _ from⟨σ,Im,.mk k t m a b As cs subs Ad cd decls At ct tail pos,rfl,⟨rfl,rfl⟩,F5.st,F5.sp,F5.gr,(zZ2 hK5 hn5 (fun _ h=>h)).1 _ O1.out⟩);obtain⟨z0,z1,z2,z3,z4,z5,z6,z7,z8⟩:=zZ6 hB5;refine bodyPost_ret (v:=.agg #[.int .i64 k,.string ⟨t.toArray⟩,.int .i64 m,.string ⟨a.toArray⟩,.string ⟨b.toArray⟩,.slice As subs.length cs,.slice Ad decls.length cd,.slice At tail.length ct,.int .i64 pos]) ?_ rfl HR.out;simp[results,Tryz.results75,go_sem,z0,z1,z2,z3,z4,z5,z6,z7,z8]
end
end Go.Proofs.YtdgehhgjgifikaaGreatDoor
