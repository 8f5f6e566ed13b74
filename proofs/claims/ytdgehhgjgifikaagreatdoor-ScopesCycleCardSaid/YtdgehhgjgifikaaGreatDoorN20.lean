/- What the claim needs of:YV YW. -/
import Derived.Test.YtdgehhgjgifikaaGreatDoorN19
namespace Go.Proofs.YtdgehhgjgifikaaGreatDoor
open Go.RowKit
theorem yP0:ElT Tryz.prog 56 71 11 184:=ElT.mk_ (z:=.agg #[.int .i64 0,.int .i64 0,.string ByteArray.empty,.string ByteArray.empty,.string ByteArray.empty,.slice none 0 0,.slice none 0 0,.slice none 0 0,.slice none 0 0,.string ByteArray.empty,.int .i64 0]) Tryz.underlying56 (by kernel_rfl) (by kernel_rfl) (by decide)
section
variable {X:Type}{R:RF}{C:Clo X}{n s s':Nat}{σ0 σ σ':GS X}{Im0 Im Im' N:Nat→Prop}{w wx wy:World}
structure RowD (R:RF)(C:Clo X)(w:World)(v:Value)(l':List DA)(σ:GS X)(Im:Nat→Prop)(wx:World):Prop where
 ac:Acc wx 0 71 11 v l'.length (l'.flatMap encD)
 ma:∀ b,v.ownBlock=some b→Mine (zn R C σ Im) wx b∧w.heap.size≤b
 ok:OkIds Im wx l'
variable {v v':Value}{l':List DA}
theorem RowD.nil_:RowD R C w (.slice none 0 0) [] σ Im wx:=⟨Acc.nil_ _ _ _ _,fun b hb=>(by cases hb),trivial⟩
theorem RowD.below (h:RowD R C w v l' σ Im wx)(hb:Below wx.heap.size wx wy):RowD R C w v l' σ Im wy:=
 ⟨h.ac.below hb,fun b hv=>⟨(h.ma b hv).1.up hb.size,(h.ma b hv).2⟩,(zZ5 (N:=fun _=>False) (Kp.ofBelow hb _) (fun _ _ h=>h) (fun _ h=>h)).2.2.2 _ h.ok⟩
theorem RowD.step (h:RowD R C w v l' σ Im wx)(hz:(zn R C σ Im).Ok wx)(h2:Sp (zn R C σ Im) wx (zn R C σ' Im') wy):RowD R C w v l' σ' Im' wy:=
 ⟨zL8 h.ac h2.kp fun b hb=>(h.ma b hb).1.2.1,fun b hb=>⟨h2.own (h.ma b hb).1,(h.ma b hb).2⟩,(zZ5 h2.kp (fun b hb hm=>(hz.mu b hm).2 hb) h2.im).2.2.2 _ h.ok⟩
theorem RowD.freeze (h:RowD R C w v l' σ Im wx){F:Nat→Prop}(hF:∀ b,v.ownBlock=some b→¬ F b):RowD R C w v l' σ (fun b=>Im b∨F b) wx:=
 ⟨h.ac,fun b hb=>⟨⟨(h.ma b hb).1.1,(h.ma b hb).1.2.1,fun hh=>hh.elim (h.ma b hb).1.2.2 (hF b hb)⟩,(h.ma b hb).2⟩,(zZ5 (N:=fun _=>False) (Kp.refl _ _) (fun _ _ h=>h) (fun _ h=>.inl h)).2.2.2 _ h.ok⟩
theorem RowD.app (h:RowD R C w v l' σ Im wx)(hz:(zn R C σ Im).Ok wx)(hw:w.heap.size≤wx.heap.size){e':DA}(he:OkId Im wx e'){o:Obj}(hac:Acc wy 0 71 11 v' (l'.length+1) (l'.flatMap encD++encD e'))(hg:(wx.alloc o).grownBy wy v.ownBlock)(hob:v'.ownBlock=v.ownBlock∨∃ g,v'.ownBlock=some g∧(wx.alloc o).heap.size≤g) :
  RowD R C w v' (l'++ [e']) σ Im wy∧Kp (fun b=>v.ownBlock=some b) wx wy:=by
 have hk:Kp (fun b=>v.ownBlock=some b) wx wy:=((Kp.refl _ wx).alloc o).grown hg fun k hk=>.inl hk
 have hN:∀ b,Im b→¬ v.ownBlock=some b:=fun b hb hv=>(h.ma b hv).1.2.2 hb
 refine⟨⟨?_,fun b hb=>?_,((zZ5 hk hN (fun _ h=>h)).2.2.2 _ h.ok).snoc ((zZ5 hk hN (fun _ h=>h)).2.1 _ he)⟩,hk⟩
 ·rw[List.length_append,List.flatMap_append]
  simpa using hac
 ·rcases hob with h1 | ⟨g,h1,h2⟩
  ·have:=h.ma b (h1▸hb)
   exact⟨this.1.up hk.size,this.2⟩
  ·rw[h1] at hb
   injection hb with hb
   subst hb
   simp only[World.size_alloc] at h2
   have hlt:g < wy.heap.size:=by
    rcases hac with h3 | ⟨_,g2,off,h3,h4,_⟩
    ·exact(h3.lt g h1).2
    ·rw[h3] at h1
     injection h1 with h1
     exact h1▸h4
   exact⟨hz.new_ (by omega) hlt,by omega⟩
end
section
variable {X:Type}{R:RF}{C:Clo X}{n s:Nat}{U:UseR X}{σ0 σ σ':GS X}{Im0 Im Im':Nat→Prop}{w wx wy:World}
structure Dc0 (R:RF)(C:Clo X)(n s:Nat)(σ0:GS X)(Im0:Nat→Prop)(w:World)(Al:Option Addr)(l:List DA)(env:List ScA)(ve:Value)(lp:List Tx)(A:Option Addr)(σ:GS X)(Im:Nat→Prop)(wx:World):Prop where
 fr:Fr R C n s σ0 Im0 w σ Im wx
 sl:SlI Im wx 11 encD Al l
 ok:OkIds Im wx l
 en:EnvI Im wx ve env
 kn:EnvK σ.ρ.objs env
 lp:SlI Im wx 1 encS A lp
variable {Al A:Option Addr}{l:List DA}{env:List ScA}{ve:Value}{lp:List Tx}{s':Nat}
theorem Dc0.move {N:Nat→Prop}(h:Dc0 R C n s σ0 Im0 w Al l env ve lp A σ Im wx)(fr:Fr R C n s' σ0 Im0 w σ' Im' wy)(hk:Kp N wx wy)(hN:∀ b,Im b→¬ N b)(hI:∀ b,Im b→Im' b)(kn:EnvK σ'.ρ.objs env):Dc0 R C n s' σ0 Im0 w Al l env ve lp A σ' Im' wy:=
 ⟨fr,h.sl.kept hk hN hI,(zZ5 hk hN hI).2.2.2 _ h.ok,h.en.kept hk hN hI,kn,h.lp.kept hk hN hI⟩
theorem Dc0.below (h:Dc0 R C n s σ0 Im0 w Al l env ve lp A σ Im wx)(hb:Below wx.heap.size wx wy):Dc0 R C n s σ0 Im0 w Al l env ve lp A σ Im wy:=
 h.move (N:=fun _=>False) (h.fr.below hb) (Kp.ofBelow hb _) (fun _ _ h=>h) (fun _ h=>h) h.kn
theorem Dc0.step (h:Dc0 R C n s σ0 Im0 w Al l env ve lp A σ Im wx)(h1:St R C n s' σ' Im' wy)(h2:Sp (zn R C σ Im) wx (zn R C σ' Im') wy)(h3:Gr wx σ σ'):Dc0 R C n s' σ0 Im0 w Al l env ve lp A σ' Im' wy:=
 h.move (h.fr.step h1 h2 h3) h2.kp (fun b hb hm=>(h.fr.st.zo.mu b hm).2 hb) h2.im (h.kn.gr h3)
theorem Dc0.freeze (h:Dc0 R C n s σ0 Im0 w Al l env ve lp A σ Im wx){F:Nat→Prop}(hF:∀ b,F b→Mine (zn R C σ Im) wx b∧w.heap.size≤b):Dc0 R C n s σ0 Im0 w Al l env ve lp A σ (fun b=>Im b∨F b) wx:=
 h.move (N:=fun _=>False) (h.fr.freeze hF) (Kp.refl _ _) (fun _ _ h=>h) (fun _ h=>.inl h) h.kn
theorem Dc0.write {N:Nat→Prop}(h:Dc0 R C n s σ0 Im0 w Al l env ve lp A σ Im wx)(hk:Kp N wx wy)(hN:∀ b,N b→Mine (zn R C σ Im) wx b∧w.heap.size≤b):Dc0 R C n s σ0 Im0 w Al l env ve lp A σ Im wy:=
 h.move (h.fr.write hk fun b hb=>⟨(hN b hb).2,(hN b hb).1.2⟩) hk (fun b hb hn=>(hN b hn).1.2.2 hb) (fun _ h=>h) h.kn
theorem Dc0.less (h:Dc0 R C n s σ0 Im0 w Al l env ve lp A σ Im wx)(hs:s'≤s):Dc0 R C n s' σ0 Im0 w Al l env ve lp A σ Im wx:=⟨h.fr.less hs,h.sl,h.ok,h.en,h.kn,h.lp⟩
end
structure ResD (AS:Option Addr)(ls:List EA)(AB:Option Addr)(lb:List DA)(A7:Option Addr)(tl:List Tx)(A8:Option Addr)(le:List Tx)(Im:Nat→Prop)(wx:World):Prop where
 sl:SlI Im wx 9 encE AS ls
 ok:OkIs Im wx ls
 bl:SlI Im wx 11 encD AB lb
 bo:OkIds Im wx lb
 tl:SlI Im wx 1 encS A7 tl
 le:SlI Im wx 1 encS A8 le
section
variable {X:Type}{R:RF}{C:Clo X}{n s s':Nat}{σ0 σ σ':GS X}{Im0 Im Im' N:Nat→Prop}{w wx wy:World}
variable {AS AB A7 A8:Option Addr}{ls:List EA}{lb:List DA}{tl le:List Tx}
theorem ResD.kept (h:ResD AS ls AB lb A7 tl A8 le Im wx)(hk:Kp N wx wy)(hN:∀ b,Im b→¬ N b)(hI:∀ b,Im b→Im' b):ResD AS ls AB lb A7 tl A8 le Im' wy:=
 ⟨h.sl.kept hk hN hI,(zZ5 hk hN hI).2.2.1 _ h.ok,h.bl.kept hk hN hI,(zZ5 hk hN hI).2.2.2 _ h.bo,h.tl.kept hk hN hI,h.le.kept hk hN hI⟩
theorem RowE.resD {cS:Nat}(h:RowE R C w (.slice AS ls.length cS) ls σ Im wx)(hl:ls.length≤1048576):ResD AS ls none [] none [] none [] (fun b=>Im b∨(Value.slice AS ls.length cS).ownBlock=some b) wx:=
 ⟨(h.res hl).sl,(h.res hl).ok,SlI.nil_ _ _ _ _ _,trivial,SlI.nil_ _ _ _ _ _,SlI.nil_ _ _ _ _ _⟩
variable {Al A:Option Addr}{l:List DA}{env:List ScA}{ve:Value}{lp:List Tx}{vR:Value}{lR:List DA}{g:Nat}{E:Array Value}{d:DA}
structure Dc1 (R:RF)(C:Clo X)(n s:Nat)(σ0:GS X)(Im0:Nat→Prop)(w:World)(Al:Option Addr)(l:List DA)(env:List ScA)(ve:Value)(lp:List Tx)(A:Option Addr)(vR:Value)(lR:List DA)(g:Nat)(E:Array Value)(d:DA)(σ:GS X)(Im:Nat→Prop)(wx:World):Prop where
 x:Dc0 R C n s σ0 Im0 w Al l env ve lp A σ Im wx
 r:RowD R C w vR lR σ Im wx
 b:Blk wx g 71 E
 m:Mine (zn R C σ Im) wx g
 lt:∀ q,vR.ownBlock=some q→q < g
 wg:w.heap.size≤g
 i:OkId Im wx d
theorem Dc1.below (h:Dc1 R C n s σ0 Im0 w Al l env ve lp A vR lR g E d σ Im wx)(hb:Below wx.heap.size wx wy):Dc1 R C n s σ0 Im0 w Al l env ve lp A vR lR g E d σ Im wy:=
 ⟨h.x.below hb,h.r.below hb,h.b.keep hb,h.m.up hb.size,h.lt,h.wg,(zZ5 (N:=fun _=>False) (Kp.ofBelow hb _) (fun _ _ h=>h) (fun _ h=>h)).2.1 _ h.i⟩
theorem Dc1.less (h:Dc1 R C n s σ0 Im0 w Al l env ve lp A vR lR g E d σ Im wx)(hs:s'≤s):Dc1 R C n s' σ0 Im0 w Al l env ve lp A vR lR g E d σ Im wx:=⟨h.x.less hs,h.r,h.b,h.m,h.lt,h.wg,h.i⟩
theorem Dc1.step (h:Dc1 R C n s σ0 Im0 w Al l env ve lp A vR lR g E d σ Im wx)(h1:St R C n s' σ' Im' wy)(h2:Sp (zn R C σ Im) wx (zn R C σ' Im') wy)(h3:Gr wx σ σ'):Dc1 R C n s' σ0 Im0 w Al l env ve lp A vR lR g E d σ' Im' wy:=
 ⟨h.x.step h1 h2 h3,h.r.step h.x.fr.st.zo h2,h2.kp.blk h.b h.m.2.1,h2.own h.m,h.lt,h.wg,(zZ5 h2.kp (fun b hb hm=>(h.x.fr.st.zo.mu b hm).2 hb) h2.im).2.1 _ h.i⟩
theorem Dc1.freeze (h:Dc1 R C n s σ0 Im0 w Al l env ve lp A vR lR g E d σ Im wx){F:Nat→Prop}(hF:∀ b,F b→Mine (zn R C σ Im) wx b∧g+1≤b):Dc1 R C n s σ0 Im0 w Al l env ve lp A vR lR g E d σ (fun b=>Im b∨F b) wx:=
 ⟨h.x.freeze fun b hb=>⟨(hF b hb).1,by have:=(hF b hb).2;have:=h.wg;omega⟩,h.r.freeze fun b hb hf=>by have:=(hF b hf).2;have:=h.lt b hb;omega,h.b,
  ⟨h.m.1,h.m.2.1,fun hh=>hh.elim h.m.2.2 fun h4=>by have:=(hF _ h4).2;omega⟩,h.lt,h.wg,(zZ5 (N:=fun _=>False) (Kp.refl _ _) (fun _ _ h=>h) (fun _ h=>.inl h)).2.1 _ h.i⟩
theorem RowD.write {v:Value}{l':List DA}(h:RowD R C w v l' σ Im wx)(hk:Kp N wx wy)(h1:∀ b,v.ownBlock=some b→¬ N b)(h2:∀ b,Im b→¬ N b):RowD R C w v l' σ Im wy:=
 ⟨zL8 h.ac hk h1,fun b hb=>⟨(h.ma b hb).1.up hk.size,(h.ma b hb).2⟩,(zZ5 hk h2 (fun _ h=>h)).2.2.2 _ h.ok⟩
theorem Dc1.write (h:Dc1 R C n s σ0 Im0 w Al l env ve lp A vR lR g E d σ Im wx)(hk:Kp N wx wy)(hN:∀ b,N b→Mine (zn R C σ Im) wx b∧g+1≤b):Dc1 R C n s σ0 Im0 w Al l env ve lp A vR lR g E d σ Im wy:=
 ⟨h.x.write hk fun b hb=>⟨(hN b hb).1,by have:=(hN b hb).2;have:=h.wg;omega⟩,h.r.write hk (fun b hb hn=>by have:=(hN b hn).2;have:=h.lt b hb;omega) (fun b hb hn=>(hN b hn).1.2.2 hb),
  hk.blk h.b (fun hn=>by have:=(hN _ hn).2;omega),h.m.up hk.size,h.lt,h.wg,(zZ5 hk (fun b hb hn=>(hN b hn).1.2.2 hb) (fun _ h=>h)).2.1 _ h.i⟩
theorem Dc1.setB (h:Dc1 R C n s σ0 Im0 w Al l env ve lp A vR lR g E d σ Im wx)(i:Nat)(v:Value):Dc1 R C n s σ0 Im0 w Al l env ve lp A vR lR g (E.setIfInBounds i v) d σ Im (wx.setCell ⟨g,i,none⟩ v):=by
 have hk:Kp (· = g) wx (wx.setCell ⟨g,i,none⟩ v):=(Kp.refl (· = g) wx).setCell (p:=⟨g,i,none⟩) rfl v
 have hI:∀ b,Im b→¬ b=g:=fun b hb e=>h.m.2.2 (e▸hb)
 exact⟨h.x.write hk fun b hb=>by subst hb;exact⟨h.m,h.wg⟩,h.r.write hk (fun b hb e=>by have:=h.lt b hb;omega) hI,h.b.set_ i v,h.m.up hk.size,h.lt,h.wg,(zZ5 hk hI (fun _ h=>h)).2.1 _ h.i⟩
theorem Dc1.cast {E':Array Value}(h:Dc1 R C n s σ0 Im0 w Al l env ve lp A vR lR g E d σ Im wx)(he:E=E'):Dc1 R C n s σ0 Im0 w Al l env ve lp A vR lR g E' d σ Im wx:=he▸h
theorem ResD.setB (h:ResD AS ls AB lb A7 tl A8 le Im wx)(hm:Mine (zn R C σ Im) wx g)(i:Nat)(v:Value):ResD AS ls AB lb A7 tl A8 le Im (wx.setCell ⟨g,i,none⟩ v):=
 h.kept ((Kp.refl (· = g) wx).setCell (p:=⟨g,i,none⟩) rfl v) (fun _ hb e=>hm.2.2 (e▸hb)) (fun _ h=>h)
theorem yV9 {z:Zn}{w0:World}{A':Option Addr}{xs:List Tx}(hz:z.Ok w0)(hs:Sl wx wx.heap.size 1 encS A' xs)(hn:∀ a,A'=some a→w0.heap.size≤a.block):∀ q,(xs≠[]∧∃ ad,A'=some ad∧ad.block=q)→Mine z wx q∧w0.heap.size≤q:=fun q ⟨hnt,ad,h1,h2⟩=>by
 have h3:=hn ad h1
 have h4:ad.block < wx.heap.size:=by
  rcases hs with h5 | ⟨b5,o5,h5,h6,_⟩
  ·exact absurd h5 hnt
  ·rw[h1] at h5
   injection h5 with h5
   rw[h5]
   exact h6
 rw[h2] at h3 h4
 exact⟨hz.new_ h3 h4,h3⟩
theorem sl_fr {A':Option Addr}{xs:List Tx}(hs:Sl wx wx.heap.size 1 encS A' xs)(hl:xs.length≤1048576):SlI (fun q=>Im q∨(xs≠[]∧∃ ad,A'=some ad∧ad.block=q)) wx 1 encS A' xs:=by
 refine⟨hs,hl,?_⟩
 by_cases hnt:xs=[]
 ·exact .inl hnt
 ·exact .inr fun ad had=>.inr ⟨hnt,ad,had,rfl⟩
theorem Dc1.clones {v0 v1 v2 v3 v4 v5 v6 v7 v8 v9 v10:Value}{w6 w7 w8:World}{c7 c8:Nat}(h:Dc1 R C n s σ0 Im0 w Al l env ve lp A vR lR g #[v0,v1,v2,v3,v4,v5,v6,v7,v8,v9,v10] d σ Im w6)(r:ResD AS ls AB lb none [] none [] Im w6)
  (hl8:le.length≤1048576)(hl7:tl.length≤1048576)(hS8:SlN w7 w7.heap.size 1 encS A8 le)(hb8:Below w6.heap.size w6 w7)(hn8:∀ a,A8=some a→w6.heap.size≤a.block)(hS7:SlN w8 w8.heap.size 1 encS A7 tl)(hb7:Below w7.heap.size w7 w8)(hn7:∀ a,A7=some a→w7.heap.size≤a.block) :
  ∃ Im9:Nat→Prop,Dc1 R C n s σ0 Im0 w Al l env ve lp A vR lR g #[v0,v1,v2,v3,v4,v5,v6,.slice A7 tl.length c7,.slice A8 le.length c8,v9,v10] d σ Im9 ((w8.setCell ⟨g,8,none⟩ (.slice A8 le.length c8)).setCell ⟨g,7,none⟩ (.slice A7 tl.length c7))∧
    ResD AS ls AB lb A7 tl A8 le Im9 ((w8.setCell ⟨g,8,none⟩ (.slice A8 le.length c8)).setCell ⟨g,7,none⟩ (.slice A7 tl.length c7)):=by
 have hg:=h.m.1
 have hF8:=yV9 h.x.fr.st.zo hS8.1 hn8
 have D8:=(h.below hb8).freeze (F:=fun q=>le≠[]∧∃ ad,A8=some ad∧ad.block=q) fun q hq=>⟨(hF8 q hq).1,by have:=(hF8 q hq).2;omega⟩
 have r8:=r.kept (N:=fun _=>False) (Kp.ofBelow hb8 _) (fun _ _ h=>h) (fun q (h:Im q)=>(Or.inl h:Im q∨(le≠[]∧∃ ad,A8=some ad∧ad.block=q)))
 have R8:ResD AS ls AB lb none [] A8 le _ w7:=⟨r8.sl,r8.ok,r8.bl,r8.bo,r8.tl,sl_fr (Im:=Im) hS8.1 hl8⟩
 have hg7:=D8.m.1
 have hF7:=yV9 D8.x.fr.st.zo hS7.1 hn7
 have D7:=(D8.below hb7).freeze (F:=fun q=>tl≠[]∧∃ ad,A7=some ad∧ad.block=q) fun q hq=>⟨(hF7 q hq).1,by have:=(hF7 q hq).2;omega⟩
 have r7:=R8.kept (N:=fun _=>False) (Kp.ofBelow hb7 _) (fun _ _ h=>h) (fun q (h:Im q∨(le≠[]∧∃ ad,A8=some ad∧ad.block=q))=>(Or.inl h:(Im q∨(le≠[]∧∃ ad,A8=some ad∧ad.block=q))∨(tl≠[]∧∃ ad,A7=some ad∧ad.block=q)))
 have R7:ResD AS ls AB lb A7 tl A8 le _ w8:=⟨r7.sl,r7.ok,r7.bl,r7.bo,sl_fr (Im:=fun q=>Im q∨(le≠[]∧∃ ad,A8=some ad∧ad.block=q)) hS7.1 hl7,r7.le⟩
 have D9:=D7.setB 8 (.slice A8 le.length c8)
 have R9:=R7.setB D7.m 8 (.slice A8 le.length c8)
 exact⟨_,(D9.setB 7 (.slice A7 tl.length c7)).cast (by simp),R9.setB D9.m 7 (.slice A7 tl.length c7)⟩
end
end Go.Proofs.YtdgehhgjgifikaaGreatDoor
