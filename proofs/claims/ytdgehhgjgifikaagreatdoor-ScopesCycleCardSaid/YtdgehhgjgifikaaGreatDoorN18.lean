/- What the claim needs of:YT. -/
import Derived.Test.YtdgehhgjgifikaaGreatDoorN17
namespace Go.Proofs.YtdgehhgjgifikaaGreatDoor
open Go.RowKit
theorem hE_mk (k:Int)(t:Tx)(m:Int)(a b:Tx)(As:Option Addr)(cs:Nat)(subs:List EA)(Ad:Option Addr)(cd:Nat)(decls:List DA)(At:Option Addr)(ct:Nat)(tail:List Tx)(pos:Int):hE (.mk k t m a b As cs subs Ad cd decls At ct tail pos)=1+max (hEs subs) (hDs decls):=by rw[hE]
theorem hE_le:∀ {l:List EA}{e:EA},e∈l→hE e≤hEs l
 | x ::l,e,h=>by
   unfold hEs
   rcases List.mem_cons.1 h with rfl | h
   ·omega
   ·have:=hE_le h;omega
theorem sl_two {w:World}{g:Nat}{ty:TypeId}{cs:Array Value}{x y:Tx}(h:Blk w g ty cs)(h3:w.cell? ⟨g,3,none⟩=some (.string ⟨x.toArray⟩))(h4:w.cell? ⟨g,4,none⟩=some (.string ⟨y.toArray⟩)):Sl w w.heap.size 1 encS (some ⟨g,3,none⟩) [x,y]:=by
 refine .inr ⟨g,3,rfl,h.lt,fun i hi j v hv=>?_⟩
 have hj:j=0:=by
  have:=(List.getElem?_eq_some_iff.1 hv).1
  simp[encS] at this
  exact this
 subst hj
 have hi2:i=0∨i=1:=by simp at hi;omega
 rcases hi2 with rfl | rfl
 ·simp[encS] at hv
  subst hv
  exact h3
 ·simp[encS] at hv
  subst hv
  exact h4
theorem elExpr:ElT Tryz.prog 65 67 9 144:=ElT.mk_ (z:=.agg #[.int .i64 0,.string ByteArray.empty,.int .i64 0,.string ByteArray.empty,.string ByteArray.empty,.slice none 0 0,.slice none 0 0,.slice none 0 0,.int .i64 0]) Tryz.underlying65 (by kernel_rfl) (by kernel_rfl) (by decide)
section
variable {X:Type}{R:RF}{C:Clo X}{n s s':Nat}{σ0 σ σ':GS X}{Im0 Im Im' N:Nat→Prop}{w wx wy:World}{E Z:Array Value}{e:EA}{env:List ScA}{ve:Value}{lp:List Tx}{A:Option Addr}
structure Ex0 (R:RF)(C:Clo X)(n s:Nat)(σ0:GS X)(Im0:Nat→Prop)(w:World)(E Z:Array Value)(e:EA)(env:List ScA)(ve:Value)(lp:List Tx)(A:Option Addr)(σ:GS X)(Im:Nat→Prop)(wx:World):Prop where
 fr:Fr R C n s σ0 Im0 w σ Im wx
 he:Blk wx w.heap.size 67 E
 hz:Blk wx (w.heap.size+1) 67 Z
 me:Mine (zn R C σ Im) wx w.heap.size
 mz:Mine (zn R C σ Im) wx (w.heap.size+1)
 tr:OkI Im wx e
 en:EnvI Im wx ve env
 kn:EnvK σ.ρ.objs env
 lp:SlI Im wx 1 encS A lp
theorem Ex0.move (h:Ex0 R C n s σ0 Im0 w E Z e env ve lp A σ Im wx)(fr:Fr R C n s' σ0 Im0 w σ' Im' wy)(hk:Kp N wx wy)(hN:∀ b,Im b→¬ N b)(hI:∀ b,Im b→Im' b)(h1:¬ N w.heap.size)(h2:¬ N (w.heap.size+1))(me:Mine (zn R C σ' Im') wy w.heap.size)(mz:Mine (zn R C σ' Im') wy (w.heap.size+1))(kn:EnvK σ'.ρ.objs env):Ex0 R C n s' σ0 Im0 w E Z e env ve lp A σ' Im' wy:=
 ⟨fr,hk.blk h.he h1,hk.blk h.hz h2,me,mz,(zZ5 hk hN hI).1 _ h.tr,h.en.kept hk hN hI,kn,h.lp.kept hk hN hI⟩
theorem Ex0.below (h:Ex0 R C n s σ0 Im0 w E Z e env ve lp A σ Im wx)(hb:Below wx.heap.size wx wy):Ex0 R C n s σ0 Im0 w E Z e env ve lp A σ Im wy:=
 h.move (N:=fun _=>False) (h.fr.below hb) (Kp.ofBelow hb _) (fun _ _ h=>h) (fun _ h=>h) id id (h.me.up hb.size) (h.mz.up hb.size) h.kn
theorem Ex0.step (h:Ex0 R C n s σ0 Im0 w E Z e env ve lp A σ Im wx)(h1:St R C n s' σ' Im' wy)(h2:Sp (zn R C σ Im) wx (zn R C σ' Im') wy)(h3:Gr wx σ σ'):Ex0 R C n s' σ0 Im0 w E Z e env ve lp A σ' Im' wy:=
 h.move (h.fr.step h1 h2 h3) h2.kp (fun b hb hm=>(h.fr.st.zo.mu b hm).2 hb) h2.im h.me.2.1 h.mz.2.1 (h2.own h.me) (h2.own h.mz) (h.kn.gr h3)
theorem Ex0.freeze (h:Ex0 R C n s σ0 Im0 w E Z e env ve lp A σ Im wx){F:Nat→Prop}(hF:∀ b,F b→Mine (zn R C σ Im) wx b∧w.heap.size+2≤b):Ex0 R C n s σ0 Im0 w E Z e env ve lp A σ (fun b=>Im b∨F b) wx:=
 h.move (N:=fun _=>False) (h.fr.freeze fun b hb=>⟨(hF b hb).1,by have:=(hF b hb).2;omega⟩) (Kp.refl _ _) (fun _ _ h=>h) (fun _ h=>.inl h) id id
  ⟨h.me.1,h.me.2.1,fun hh=>hh.elim h.me.2.2 fun h4=>by have:=(hF _ h4).2;omega⟩ ⟨h.mz.1,h.mz.2.1,fun hh=>hh.elim h.mz.2.2 fun h4=>by have:=(hF _ h4).2;omega⟩ h.kn
theorem Ex0.write (h:Ex0 R C n s σ0 Im0 w E Z e env ve lp A σ Im wx)(hk:Kp N wx wy)(hN:∀ b,N b→Mine (zn R C σ Im) wx b∧w.heap.size+2≤b):Ex0 R C n s σ0 Im0 w E Z e env ve lp A σ Im wy:=
 h.move (h.fr.write hk fun b hb=>⟨by have:=(hN b hb).2;omega,(hN b hb).1.2⟩) hk (fun b hb hn=>(hN b hn).1.2.2 hb) (fun _ h=>h) (fun hn=>by have:=(hN _ hn).2;omega) (fun hn=>by have:=(hN _ hn).2;omega) (h.me.up hk.size) (h.mz.up hk.size) h.kn
theorem Ex0.setE (h:Ex0 R C n s σ0 Im0 w E Z e env ve lp A σ Im wx)(i:Nat)(v:Value):Ex0 R C n s σ0 Im0 w (E.setIfInBounds i v) Z e env ve lp A σ Im (wx.setCell ⟨w.heap.size,i,none⟩ v):=by
 have hk:Kp (· = w.heap.size) wx (wx.setCell ⟨w.heap.size,i,none⟩ v):=(Kp.refl (· = w.heap.size) wx).setCell (p:=⟨w.heap.size,i,none⟩) rfl v
 have hN:∀ b,Im b→¬ b=w.heap.size:=fun b hb e=>h.me.2.2 (e▸hb)
 exact⟨h.fr.cell (Nat.le_refl _) h.me i v,h.he.set_ i v,h.hz.far (by show w.heap.size+1≠w.heap.size;omega) v,h.me.up hk.size,h.mz.up hk.size,(zZ5 hk hN (fun _ h=>h)).1 _ h.tr,h.en.kept hk hN (fun _ h=>h),h.kn,h.lp.kept hk hN (fun _ h=>h)⟩
theorem Ex0.cast {E':Array Value}(h:Ex0 R C n s σ0 Im0 w E Z e env ve lp A σ Im wx)(he:E=E'):Ex0 R C n s σ0 Im0 w E' Z e env ve lp A σ Im wx:=he▸h
theorem Ex0.less (h:Ex0 R C n s σ0 Im0 w E Z e env ve lp A σ Im wx)(hs:s'≤s):Ex0 R C n s' σ0 Im0 w E Z e env ve lp A σ Im wx:=⟨h.fr.less hs,h.he,h.hz,h.me,h.mz,h.tr,h.en,h.kn,h.lp⟩
structure RowE (R:RF)(C:Clo X)(w:World)(v:Value)(l':List EA)(σ:GS X)(Im:Nat→Prop)(wx:World):Prop where
 ac:Acc wx 0 67 9 v l'.length (l'.flatMap encE)
 ma:∀ b,v.ownBlock=some b→Mine (zn R C σ Im) wx b∧w.heap.size+2≤b
 ok:OkIs Im wx l'
theorem zL8 {base ty size k:Nat}{v:Value}{xs:List Value}(h:Acc wx base ty size v k xs)(hk:Kp N wx wy)(hN:∀ b,v.ownBlock=some b→¬ N b):Acc wy base ty size v k xs:=by
 rcases h with h | ⟨hl,g,off,rfl,hlt,hc⟩
 ·exact .inl (zV5 h hk hN)
 ·exact .inr ⟨hl,g,off,rfl,Nat.lt_of_lt_of_le hlt hk.size,fun j u hu=>(hk.cell (p:=⟨g,off+j,none⟩) hlt (hN g rfl)).trans (hc j u hu)⟩
variable {v v':Value}{l':List EA}
theorem RowE.nil_:RowE R C w (.slice none 0 0) [] σ Im wx:=⟨Acc.nil_ _ _ _ _,fun b hb=>(by cases hb),trivial⟩
theorem RowE.below (h:RowE R C w v l' σ Im wx)(hb:Below wx.heap.size wx wy):RowE R C w v l' σ Im wy:=
 ⟨h.ac.below hb,fun b hv=>⟨(h.ma b hv).1.up hb.size,(h.ma b hv).2⟩,(zZ5 (N:=fun _=>False) (Kp.ofBelow hb _) (fun _ _ h=>h) (fun _ h=>h)).2.2.1 _ h.ok⟩
theorem RowE.step (h:RowE R C w v l' σ Im wx)(hz:(zn R C σ Im).Ok wx)(h2:Sp (zn R C σ Im) wx (zn R C σ' Im') wy):RowE R C w v l' σ' Im' wy:=
 ⟨zL8 h.ac h2.kp fun b hb=>(h.ma b hb).1.2.1,fun b hb=>⟨h2.own (h.ma b hb).1,(h.ma b hb).2⟩,(zZ5 h2.kp (fun b hb hm=>(hz.mu b hm).2 hb) h2.im).2.2.1 _ h.ok⟩
theorem RowE.freeze (h:RowE R C w v l' σ Im wx){F:Nat→Prop}(hF:∀ b,v.ownBlock=some b→¬ F b):RowE R C w v l' σ (fun b=>Im b∨F b) wx:=
 ⟨h.ac,fun b hb=>⟨⟨(h.ma b hb).1.1,(h.ma b hb).1.2.1,fun hh=>hh.elim (h.ma b hb).1.2.2 (hF b hb)⟩,(h.ma b hb).2⟩,(zZ5 (N:=fun _=>False) (Kp.refl _ _) (fun _ _ h=>h) (fun _ h=>.inl h)).2.2.1 _ h.ok⟩
theorem RowE.app (h:RowE R C w v l' σ Im wx)(hz:(zn R C σ Im).Ok wx)(hw:w.heap.size+2≤wx.heap.size){e':EA}(he:OkI Im wx e'){o:Obj}(hac:Acc wy 0 67 9 v' (l'.length+1) (l'.flatMap encE++encE e'))(hg:(wx.alloc o).grownBy wy v.ownBlock)(hob:v'.ownBlock=v.ownBlock∨∃ g,v'.ownBlock=some g∧(wx.alloc o).heap.size≤g) :
  RowE R C w v' (l'++ [e']) σ Im wy∧Kp (fun b=>v.ownBlock=some b) wx wy:=by
 have hk:Kp (fun b=>v.ownBlock=some b) wx wy:=((Kp.refl _ wx).alloc o).grown hg fun k hk=>.inl hk
 have hN:∀ b,Im b→¬ v.ownBlock=some b:=fun b hb hv=>(h.ma b hv).1.2.2 hb
 refine⟨⟨?_,fun b hb=>?_,((zZ5 hk hN (fun _ h=>h)).2.2.1 _ h.ok).snoc ((zZ5 hk hN (fun _ h=>h)).1 _ he)⟩,hk⟩
 ·rw[List.length_append,List.flatMap_append]
  simpa using hac
 ·rcases hob with h1 | ⟨g,h1,h2⟩
  ·have:=h.ma b (h1▸hb)
   exact⟨this.1.up hk.size,this.2⟩
  ·rw[h1] at hb
   injection hb with hb
   subst hb
   simp only[World.size_alloc] at h2
   have hlt:g < wy.heap.size:=by
    rcases hac with h3 | ⟨_,g2,off,h3,h4,_⟩
    ·exact(h3.lt g h1).2
    ·rw[h3] at h1
     injection h1 with h1
     exact h1▸h4
   exact⟨hz.new_ (by omega) hlt,by omega⟩
theorem RowE.done (h:RowE R C w v l' σ Im wx)(hl:l'.length≤1048576):∃ A c,v=.slice A l'.length c∧SlI (fun b=>Im b∨v.ownBlock=some b) wx 9 encE A l':=by
 obtain⟨A,c,rfl⟩:=h.ac.shape
 refine⟨A,c,rfl,(zO1 zP0 h.ac (by decide)).2,hl,.inr fun a ha=>?_⟩
 subst ha
 exact .inr rfl
structure ResE (AS:Option Addr)(l':List EA)(A7:Option Addr)(tl:List Tx)(Im:Nat→Prop)(wx:World):Prop where
 sl:SlI Im wx 9 encE AS l'
 ok:OkIs Im wx l'
 tl:SlI Im wx 1 encS A7 tl
theorem ResE.kept {AS A7:Option Addr}{tl:List Tx}(h:ResE AS l' A7 tl Im wx)(hk:Kp N wx wy)(hN:∀ b,Im b→¬ N b)(hI:∀ b,Im b→Im' b):ResE AS l' A7 tl Im' wy:=
 ⟨h.sl.kept hk hN hI,(zZ5 hk hN hI).2.2.1 _ h.ok,h.tl.kept hk hN hI⟩
theorem RowE.res {AS:Option Addr}{cS:Nat}(h:RowE R C w (.slice AS l'.length cS) l' σ Im wx)(hl:l'.length≤1048576):ResE AS l' none [] (fun b=>Im b∨(Value.slice AS l'.length cS).ownBlock=some b) wx:=
 ⟨⟨(zO1 zP0 h.ac (by decide)).2,hl,.inr fun a ha=>by subst ha;exact .inr rfl⟩,(zZ5 (N:=fun _=>False) (Kp.refl _ _) (fun _ _ h=>h) (fun _ h=>.inl h)).2.2.1 _ h.ok,SlI.nil_ _ _ _ _ _⟩
end
end Go.Proofs.YtdgehhgjgifikaaGreatDoor
