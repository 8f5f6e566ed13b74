/- What the claim needs of:YO YP. -/
import Derived.Test.YtdgehhgjgifikaaGreatDoorK12
import Derived.RangeFuncNested
import Derived.RangeFuncBound
import Derived.RangeFuncCalls
import Derived.RangeFuncLeaves
import Derived.RangeFuncFrom
import Derived.RangeFuncBox
import Derived.Shelf.Abstract
import Derived.Shelf.RegionOpen
import Derived.OwnWalkIn
import Derived.TacticsInMore
import Derived.LoopNIn
import Derived.LoopIn
import Derived.Maps.AppendAt
import Derived.Maps.OwnIn
import Derived.Sort.MapsRangeIn
namespace Go.Proofs.YtdgehhgjgifikaaGreatDoor
open Go.RowKit
structure Zn where
 Mut:Nat→Prop
 Im:Nat→Prop
structure Zn.Ok (z:Zn)(w:World):Prop where
 mu:∀ b,z.Mut b→b < w.heap.size∧¬ z.Im b
 im:∀ b,z.Im b→b < w.heap.size
structure Sp (z:Zn)(w:World)(z':Zn)(w':World):Prop where
 kp:Kp z.Mut w w'
 mu:∀ b,z'.Mut b→z.Mut b∨w.heap.size≤b
 im:∀ b,z.Im b→z'.Im b
 ni:∀ b,z'.Im b→z.Im b∨w.heap.size≤b
 ok:z'.Ok w'
def Mine (z:Zn)(w:World)(b:Nat):Prop:=b < w.heap.size∧¬ z.Mut b∧¬ z.Im b
section
variable {z z1 z2:Zn}{w w1 w2:World}
theorem Zn.Ok.size (h:z.Ok w)(hs:w.heap.size≤w1.heap.size):z.Ok w1:=⟨fun b hb=>⟨Nat.lt_of_lt_of_le (h.mu b hb).1 hs,(h.mu b hb).2⟩,fun b hb=>Nat.lt_of_lt_of_le (h.im b hb) hs⟩
theorem Sp.refl (h:z.Ok w):Sp z w z w:=⟨Kp.refl _ _,fun _ h=>.inl h,fun _ h=>h,fun _ h=>.inl h,h⟩
theorem Sp.trans (h:Sp z w z1 w1)(k:Sp z1 w1 z2 w2):Sp z w z2 w2:=by
 have hs:=h.kp.size;refine⟨h.kp.trans2 k.kp fun i hi hm=>?_,fun b hb=>?_,fun b hb=>k.im b (h.im b hb),fun b hb=>?_,k.ok⟩
 ·rcases h.mu i hm with h1 | h1
  ·exact h1
  ·omega
 ·rcases k.mu b hb with h1 | h1
  ·exact h.mu b h1
  ·exact .inr qG
 ·rcases k.ni b hb with h1 | h1
  ·exact h.ni b h1
  ·exact .inr qG
theorem Sp.own_ (h:Sp z w z1 w1){N:Nat→Prop}(hk:Kp N w1 w2)(hN:∀ b,N b→w.heap.size≤b):Sp z w z1 w2:=
 ⟨h.kp.trans2 hk fun i hi hm=>by have:=hN i hm;omega,h.mu,h.im,h.ni,h.ok.size hk.size⟩
theorem Sp.own (h:Sp z w z1 w1){b:Nat}(ho:Mine z w b):Mine z1 w1 b:=by
 obtain⟨h1,h2,h3⟩:=ho;refine⟨Nat.lt_of_lt_of_le h1 h.kp.size,fun hm=>?_,fun hm=>?_⟩
 ·rcases h.mu b hm with h4 | h4
  ·exact h2 h4
  ·omega
 ·rcases h.ni b hm with h4 | h4
  ·exact h3 h4
  ·omega
theorem Zn.Ok.new_ (h:z.Ok w){b:Nat}(hb:w.heap.size≤b)(hs:b < w1.heap.size):Mine z w1 b:=⟨hs,fun hm=>by have:=(h.mu b hm).1;omega,fun hm=>by have:=h.im b hm;omega⟩
end
def SlI {α:Type}(Im:Nat→Prop)(w:World)(k:Nat)(enc:α→List Value)(A:Option Addr)(l:List α):Prop:=
 Sl w w.heap.size k enc A l∧l.length≤1048576∧(l=[]∨∀ a,A=some a→Im a.block)
theorem SlI.n {α:Type}{Im:Nat→Prop}{w:World}{k:Nat}{enc:α→List Value}{A:Option Addr}{l:List α}(h:SlI Im w k enc A l):SlN w w.heap.size k enc A l:=⟨h.1,by have:=h.2.1;omega⟩
theorem SlI.nil_ {α:Type}(Im:Nat→Prop)(w:World)(k:Nat)(enc:α→List Value)(A:Option Addr):SlI Im w k enc A ([]:List α):=⟨.inl rfl,Nat.zero_le _,.inl rfl⟩
theorem SlI.kept {α:Type}{Im Im' N:Nat→Prop}{w w':World}{k:Nat}{enc:α→List Value}{A:Option Addr}{l:List α}(h:SlI Im w k enc A l)(hk:Kp N w w')(hN:∀ b,Im b→¬ N b)(hI:∀ b,Im b→Im' b):SlI Im' w' k enc A l:=by
 obtain⟨h1,h2,h3⟩:=h;rcases h3 with rfl | h3
 ·exact SlI.nil_ _ _ _ _ _
 ·refine⟨(hk.sl h1 qJ fun b hb=>?_).more hk.size,h2,.inr fun a ha=>hI _ (h3 a ha)⟩;cases A with
  | none=>cases hb
  | some a=>injection hb with hb;exact hb▸hN _ (h3 a rfl)
mutual
def OkI (Im:Nat→Prop)(w:World):EA→Prop
 | .mk _ t _ a b As _ subs Ad _ decls At _ tail _=>(t.length≤maxLen∧a.length≤maxLen∧b.length≤maxLen)∧SlI Im w 9 encE As subs∧OkIs Im w subs∧SlI Im w 11 encD Ad decls∧OkIds Im w decls∧SlI Im w 1 encS At tail
def OkIs (Im:Nat→Prop)(w:World):List EA→Prop
 | []=>True
 | x ::l=>OkI Im w x∧OkIs Im w l
def OkId (Im:Nat→Prop)(w:World):DA→Prop
 | .mk k _ l a b As _ subs Ab _ body At _ tail Al _ lead trail _=>((l.length≤maxLen∧a.length≤maxLen∧b.length≤maxLen∧trail.length≤maxLen)∧(k=4→subs.length=1))∧SlI Im w 9 encE As subs∧OkIs Im w subs∧SlI Im w 11 encD Ab body∧OkIds Im w body∧SlI Im w 1 encS At tail∧SlI Im w 1 encS Al lead
def OkIds (Im:Nat→Prop)(w:World):List DA→Prop
 | []=>True
 | x ::l=>OkId Im w x∧OkIds Im w l
end
theorem zZ2 {Im Im' N:Nat→Prop}{w w':World}(hk:Kp N w w')(hN:∀ b,Im b→¬ N b)(hI:∀ b,Im b→Im' b):(∀ e,OkI Im w e→OkI Im' w' e)∧(∀ d,OkId Im w d→OkId Im' w' d)∧(∀ l,OkIs Im w l→OkIs Im' w' l)∧∀ l,OkIds Im w l→OkIds Im' w' l:=
 zY9 (fun _ _ _ _ _ _ _ _ _ _ _ _ _ _ _ h1 h2 h=>⟨h.1,h.2.1.kept hk hN hI,h1 h.2.2.1,h.2.2.2.1.kept hk hN hI,h2 h.2.2.2.2.1,h.2.2.2.2.2.kept hk hN hI⟩)
  (fun _ _ _ _ _ _ _ _ _ _ _ _ _ _ _ _ _ _ _ h1 h2 h=>⟨h.1,h.2.1.kept hk hN hI,h1 h.2.2.1,h.2.2.2.1.kept hk hN hI,h2 h.2.2.2.2.1,h.2.2.2.2.2.1.kept hk hN hI,h.2.2.2.2.2.2.kept hk hN hI⟩)
  (fun _=>trivial) (fun _ _ h1 h2 h=>⟨h1 h.1,h2 h.2⟩) (fun _=>trivial) (fun _ _ h1 h2 h=>⟨h1 h.1,h2 h.2⟩)
theorem xY7 {Im:Nat→Prop}{w:World}:(∀ e,OkI Im w e→OkA w w.heap.size e)∧(∀ d,OkId Im w d→OkAd w w.heap.size d)∧(∀ l,OkIs Im w l→OkAs w w.heap.size l)∧∀ l,OkIds Im w l→OkAds w w.heap.size l:=
 zY9 (fun _ _ _ _ _ _ _ _ _ _ _ _ _ _ _ h1 h2 h=>⟨h.1,h.2.1.n,h1 h.2.2.1,h.2.2.2.1.n,h2 h.2.2.2.2.1,h.2.2.2.2.2.n⟩)
  (fun _ _ _ _ _ _ _ _ _ _ _ _ _ _ _ _ _ _ _ h1 h2 h=>⟨h.1.1,h.2.1.n,h1 h.2.2.1,h.2.2.2.1.n,h2 h.2.2.2.2.1,h.2.2.2.2.2.1.n,h.2.2.2.2.2.2.n⟩)
  (fun _=>trivial) (fun _ _ h1 h2 h=>⟨h1 h.1,h2 h.2⟩) (fun _=>trivial) (fun _ _ h1 h2 h=>⟨h1 h.1,h2 h.2⟩)
theorem OkIs.at_ {Im:Nat→Prop}{w:World}:∀ {l:List EA}(_:OkIs Im w l){e:EA}(_:e∈l),OkI Im w e
 | _ ::_,h,_,he=>by
   rcases List.mem_cons.1 he with rfl | he
   ·exact h.1
   ·exact OkIs.at_ h.2 he
theorem OkIds.at_ {Im:Nat→Prop}{w:World}:∀ {l:List DA}(_:OkIds Im w l){d:DA}(_:d∈l),OkId Im w d
 | _ ::_,h,_,he=>by
   rcases List.mem_cons.1 he with rfl | he
   ·exact h.1
   ·exact OkIds.at_ h.2 he
theorem OkIs.snoc {Im:Nat→Prop}{w:World}:∀ {l:List EA}{e:EA},OkIs Im w l→OkI Im w e→OkIs Im w (l++ [e])
 | [],_,_,he=>⟨he,trivial⟩
 | _ ::_,_,h,he=>⟨h.1,h.2.snoc he⟩
theorem OkIds.snoc {Im:Nat→Prop}{w:World}:∀ {l:List DA}{e:DA},OkIds Im w l→OkId Im w e→OkIds Im w (l++ [e])
 | [],_,_,he=>⟨he,trivial⟩
 | _ ::_,_,h,he=>⟨h.1,h.2.snoc he⟩
def EnvI (Im:Nat→Prop)(w:World)(v:Value)(env:List ScA):Prop:=EnvAt w w.heap.size v env∧∀ x∈env,Im x.blk∧Im x.bF∧Im x.bL
theorem EnvI.kept {Im Im' N:Nat→Prop}{w w':World}{v:Value}{env:List ScA}(h:EnvI Im w v env)(hk:Kp N w w')(hN:∀ b,Im b→¬ N b)(hI:∀ b,Im b→Im' b):EnvI Im' w' v env:=
 ⟨(h.1.kept hk fun x hx=>⟨hN _ (h.2 x hx).1,hN _ (h.2 x hx).2.1,hN _ (h.2 x hx).2.2⟩).more hk.size,fun x hx=>⟨hI _ (h.2 x hx).1,hI _ (h.2 x hx).2.1,hI _ (h.2 x hx).2.2⟩⟩
mutual
def hE:EA→Nat
 | .mk _ _ _ _ _ _ _ subs _ _ decls _ _ _ _=>1+max (hEs subs) (hDs decls)
def hEs:List EA→Nat
 | []=>0
 | x ::l=>max (hE x) (hEs l)
def hD:DA→Nat
 | .mk _ _ _ _ _ _ _ subs _ _ body _ _ _ _ _ _ _ _=>1+max (hEs subs) (hDs body)
def hDs:List DA→Nat
 | []=>0
 | x ::l=>max (hD x) (hDs l)
end
mutual
def wE:EA→Nat
 | .mk _ _ _ _ _ _ _ subs _ _ decls _ _ _ _=>1+(wEs subs+bDs decls+vDs decls)
def wEs:List EA→Nat
 | []=>0
 | x ::l=>wE x+wEs l
def vD:DA→Nat
 | .mk _ _ _ _ _ _ _ subs _ _ body _ _ _ _ _ _ _ _=>wEs subs+vDs body
def vDs:List DA→Nat
 | []=>0
 | x ::l=>vD x+vDs l
def bD:DA→Nat
 | .mk k _ _ _ _ _ _ subs _ _ _ _ _ _ _ _ _ _ _=>if k=4 then 2+wEs subs else 0
def bDs:List DA→Nat
 | []=>0
 | x ::l=>bD x+bDs l
end
def zU3:DA→List EA
 | .mk _ _ _ _ _ _ _ subs _ _ _ _ _ _ _ _ _ _ _=>subs
def wOb (o:Ob):Nat:=if (o.act||o.done)=true then 0 else 1+wEs (zU3 o.d)
def wObs (l:List Ob):Nat:=(l.map wOb).sum
structure GS (X:Type) where
 ρ:RS
 av:Value
 en:Nat→List ScA
 x:X
structure Clo (X:Type) where
 M:X→Nat→Prop
 At:X→World→Prop
 keep:∀ {x:X} {w w':World} {N:Nat→Prop},At x w→Kp N w w'→(∀ b,M x b→¬ N b)→At x w'
 ct:X→Nat
def zn {X:Type}(R:RF)(C:Clo X)(σ:GS X)(Im:Nat→Prop):Zn:=⟨fun b=>b=R.r∨b∈R.uB∨(∃ o∈σ.ρ.objs,o.blk=b)∨σ.av.ownBlock=some b∨C.M σ.x b,Im⟩
def EnvK (objs:List Ob)(env:List ScA):Prop:=∀ x∈env,∀ p∈x.lets,∃ o∈objs,o.blk=p.2
theorem yT7 (Im:Nat→Prop)(w:World):OkI Im w zK5:=by
 unfold zK5;rw[OkI,OkIs,OkIds];exact⟨⟨Nat.zero_le _,Nat.zero_le _,Nat.zero_le _⟩,SlI.nil_ _ _ _ _ _,trivial,SlI.nil_ _ _ _ _ _,trivial,SlI.nil_ _ _ _ _ _⟩
structure LetOk (Im:Nat→Prop)(en:Nat→List ScA)(objs:List Ob)(nf:Nat)(w:World)(o:Ob):Prop where
 one:∃ e,zU3 o.d=[e]
 ok:OkId Im w o.d
 env:EnvI Im w (.pointer (some ⟨o.sc,0,none⟩)) (en o.sc)
 kn:EnvK objs (en o.sc)
 hd:(en o.sc).length+hD o.d≤1000
 hf:o.file < nf
 ex:OkI Im w o.ex
def lptr (b:Nat):Value:=.pointer (some ⟨b,0,none⟩)
structure St {X:Type}(R:RF)(C:Clo X)(n s:Nat)(σ:GS X)(Im:Nat→Prop)(w:World):Prop where
 rs:RsAt R σ.ρ σ.av w.heap.size w
 al:w.ownsRow 0 80 1 σ.av σ.ρ.all.length (σ.ρ.all.map lptr)
 cl:C.At σ.x w
 zo:(zn R C σ Im).Ok w
 cm:∀ b,C.M σ.x b→b≠R.r∧b∉R.uB∧(∀ o∈σ.ρ.objs,o.blk≠b)∧σ.av.ownBlock≠some b
 am:∀ b,σ.av.ownBlock=some b→b≠R.r∧b∉R.uB∧∀ o∈σ.ρ.objs,o.blk≠b
 im:(R.iB=[]∨∀ a,R.Ai=some a→Im a.block)∧(R.uB=[]∨∀ a,R.Au=some a→Im a.block)∧∀ b∈R.iB,Im b
 lo:∀ o∈σ.ρ.objs,LetOk Im σ.en σ.ρ.objs R.uB.length w o
 bu:C.ct σ.x+(σ.ρ.all.length+wObs σ.ρ.objs+s)≤1099511627776
 lv:wObs σ.ρ.objs+s≤n
structure Gr {X:Type}(w:World)(σ σ':GS X):Prop where
 ob:∀ o∈σ.ρ.objs,∃ o'∈σ'.ρ.objs,o'.blk=o.blk
 en:∀ b,b < w.heap.size→σ'.en b=σ.en b
theorem Gr.refl {X:Type}(w:World)(σ:GS X):Gr w σ σ:=⟨fun o ho=>⟨o,ho,rfl⟩,fun _ _=>rfl⟩
theorem Gr.trans {X:Type}{w w1:World}{σ σ1 σ2:GS X}(h:Gr w σ σ1)(k:Gr w1 σ1 σ2)(hs:w.heap.size≤w1.heap.size):Gr w σ σ2:=
 ⟨fun o ho=>by
  obtain⟨o1,h1,h2⟩:=h.ob o ho;obtain⟨o2,h3,h4⟩:=k.ob o1 h1;exact⟨o2,h3,h4.trans h2⟩,fun b hb=>(k.en b qG).trans (h.en b hb)⟩
theorem EnvK.gr {X:Type}{w:World}{σ σ':GS X}{env:List ScA}(h:EnvK σ.ρ.objs env)(hg:Gr w σ σ'):EnvK σ'.ρ.objs env:=fun x hx p hp=>by
 obtain⟨o,h1,h2⟩:=h x hx p hp;obtain⟨o',h3,h4⟩:=hg.ob o h1;exact⟨o',h3,h4.trans h2⟩
theorem zU4 {w w':World}{N:Nat→Prop}{base e size n:Nat}{v:Value}{xs:List Value}(h:w.ownsRow base e size v n xs)(hk:Kp N w w')(hN:∀ b,v.ownBlock=some b→¬ N b):w'.ownsRow base e size v n xs:=by
 refine⟨h.1,?_⟩;rcases h.2 with h2 | ⟨g,cap,cur,rfl,h3,h4,h5⟩
 ·exact .inl h2
 ·have hg:g < w.heap.size:=by
   rcases Nat.lt_or_ge g w.heap.size with hlt | hge
   ·exact hlt
   ·rw[Array.getElem?_eq_none hge] at h4;cases h4
  exact .inr ⟨g,cap,cur,rfl,h3,(hk.block g hg (hN g rfl)).trans h4,h5⟩
theorem MpSl.keptA {w w':World}{B:Nat}{A:Option Addr}{bs:List Nat}{N:Nat→Prop}(h:MpSl w B A bs)(hk:Kp N w w')(hN:bs=[]∨∀ a,A=some a→¬ N a.block):MpSl w' B A bs:=by
 rcases h with h | ⟨g,cs,h1,h2,h3,h4⟩
 ·exact .inl h
 ·rcases hN with hN | hN
  ·exact .inl hN
  ·exact .inr ⟨g,cs,h1,h2,hk.blk h3 (hN _ h1),h4⟩
theorem MpsAt.keptA {R:RF}{usedI:List (List Tx)}{B:Nat}{w w':World}{N:Nat→Prop}(h:MpsAt R usedI B w)(hk:Kp N w w')(hi:R.iB=[]∨∀ a,R.Ai=some a→¬ N a.block)(hu:R.uB=[]∨∀ a,R.Au=some a→¬ N a.block)(hMi:∀ b∈R.iB,¬ N b)(hMu:∀ b∈R.uB,¬ N b):MpsAt R usedI B w':=
 ⟨h.im.keptA hk hi,h.us.keptA hk hu,h.li,h.lu,h.lb,h.iB,h.uB,h.nu,h.di,fun i hi=>(h.mi i hi).keptK hk (hMi _ (List.getElem_mem hi)),fun i hi=>(h.mu i hi).keptK hk (hMu _ (List.getElem_mem hi)),h.su,h.sl⟩
section
variable {X:Type}{R:RF}{C:Clo X}{n s:Nat}{σ:GS X}{Im:Nat→Prop}{w w':World}
theorem LetOk.kept {Im Im' N:Nat→Prop}{en:Nat→List ScA}{objs:List Ob}{nf:Nat}{o:Ob}(h:LetOk Im en objs nf w o)(hk:Kp N w w')(hN:∀ b,Im b→¬ N b)(hI:∀ b,Im b→Im' b):LetOk Im' en objs nf w' o:=
 ⟨h.one,(zZ2 hk hN hI).2.1 _ h.ok,h.env.kept hk hN hI,h.kn,h.hd,h.hf,(zZ2 hk hN hI).1 _ h.ex⟩
theorem imN {b? : Prop}{A:Option Addr}{Im N:Nat→Prop}(h:b?∨∀ a,A=some a→Im a.block)(hN:∀ b,Im b→¬ N b):b?∨∀ a,A=some a→¬ N a.block:=h.imp_right fun h a ha=>hN _ (h a ha)
theorem St.kept (h:St R C n s σ Im w){N:Nat→Prop}(hk:Kp N w w')(hN:∀ b,N b→¬ (zn R C σ Im).Mut b∧¬ Im b):St R C n s σ Im w':=by
 have hm:∀ b,(zn R C σ Im).Mut b→¬ N b:=fun b hb hn=>(hN b hn).1 hb;have hi:∀ b,Im b→¬ N b:=fun b hb hn=>(hN b hn).2 hb;have hs:=hk.size;refine⟨⟨hk.blk h.rs.rc (hm _ (.inl rfl)),Nat.lt_of_lt_of_le h.rs.rl hs,(h.rs.mp.keptA hk (imN h.im.1 hi) (imN h.im.2.1 hi) (fun b hb=>hi b (h.im.2.2 b hb)) (fun b hb=>hm b (.inr (.inl hb)))).more hs,(h.rs.ob.kept hk fun o ho=>hm _ (.inr (.inr (.inl ⟨o,ho,rfl⟩)))).more hs⟩,
  zU4 h.al hk (fun b hb=>hm b (.inr (.inr (.inr (.inl hb))))),C.keep h.cl hk (fun b hb=>hm b (.inr (.inr (.inr (.inr hb))))),h.zo.size hs,h.cm,h.am,h.im,fun o ho=>(h.lo o ho).kept hk hi (fun _ h=>h),h.bu,h.lv⟩
theorem St.freeze (h:St R C n s σ Im w){F:Nat→Prop}(hF:∀ b,F b→Mine (zn R C σ Im) w b∧True):St R C n s σ (fun b=>Im b∨F b) w:=by
 have hI:∀ b,Im b→Im b∨F b:=fun b hb=>.inl hb;refine⟨h.rs,h.al,h.cl,⟨fun b hb=>⟨(h.zo.mu b hb).1,?_⟩,fun b hb=>?_⟩,h.cm,h.am,⟨h.im.1.imp_right fun h a ha=>.inl (h a ha),h.im.2.1.imp_right fun h a ha=>.inl (h a ha),fun b hb=>.inl (h.im.2.2 b hb)⟩,fun o ho=>?_,h.bu,h.lv⟩
 ·rintro(h1 | h1)
  ·exact(h.zo.mu b hb).2 h1
  ·exact(hF b h1).1.2.1 hb
 ·rcases hb with h1 | h1
  ·exact h.zo.im b h1
  ·exact(hF b h1).1.1
 ·exact(h.lo o ho).kept (N:=fun _=>False) (Kp.refl _ _) (fun _ _ h=>h) hI
theorem Sp.freeze {z:Zn}{w0:World}(k:Sp z w0 (zn R C σ Im) w)(h:St R C n s σ Im w){F:Nat→Prop}(hF:∀ b,F b→Mine (zn R C σ Im) w b∧w0.heap.size≤b):Sp z w0 (zn R C σ fun b=>Im b∨F b) w:=
 ⟨k.kp,k.mu,fun b hb=>.inl (k.im b hb),fun b hb=>by
  rcases hb with h1 | h1
  ·exact k.ni b h1
  ·exact .inr (hF b h1).2,(h.freeze fun b hb=>⟨(hF b hb).1,trivial⟩).zo⟩
theorem St.less {s' n':Nat}(h:St R C n s σ Im w)(hs:s'≤s)(hn:n≤n'):St R C n' s' σ Im w:=⟨h.rs,h.al,h.cl,h.zo,h.cm,h.am,h.im,h.lo,by have:=h.bu;omega,by have:=h.lv;omega⟩
end
open Go.Maps Go.Sort Go.Shelf
section
variable {P:Program}{F:Fence}{nF:Nat}{k t e:TypeId}{α:Type}{T:KeyT P k α}{w:World}{b n:Nat}{f:α→Option Value}{ops:Array Oper}{rest:List Oper}{o:Oper}{a:Act}{Q:Exit→Act→World→Prop}
theorem zD2 (hg:o.guard=none)(m:Operand)(t:TypeId)(hop:o.op=Op.range t m)(e:TypeId)(ht:P.underlying t=some (.map k e))(hm:a.eval m=.map (some b))(h:OMap T w b n f)
  (hK:∀ w' cnt,ORange T w' b w.heap.size n f (fun a=>(f a).isSome) cnt→w.grownBy w' none→w'.heap.size=w.heap.size+1→cnt≤n→wpListIn F nF P ops Q rest (a.put o.dst (.pointer (some ⟨w.heap.size,0,none⟩))) w'):wpListIn F nF P ops Q (o ::rest) a w:=by
 refine wpListIn_plain hg fun K' hK'=>?_;obtain⟨w',cnt,hrun,r1,r2,r3,r4⟩:=h.range ht;unfold Oper.wpIn;refine⟨by simp[Oper.about,hop],?_⟩;rw[Oper.semAt_plain F _ _ (by rw[hop];intro c hc';cases hc')];simp[execOp,hop,hm,hrun,Result.andThen];exact hK' _ _ (hK w' cnt r1 r2 r3 r4)
theorem zC9 [DecidableEq α] {r cnt:Nat}{S:α→Bool}(hg:o.guard=none)(it:Operand)(hop:o.op=Op.next it false)(hit:a.eval it=.pointer (some ⟨r,0,none⟩))(h:ORange T w b r n f S cnt)
  (hDone:cnt=0→(∀ x,T.ok x→S x=false)→wpListIn F nF P ops Q rest (a.put o.dst (.tuple #[.bool false])) w)
  (hMore:∀ x v w' cnt',T.ok x→S x=true→f x=some v→ORange T w' b r n f (fun y=>S y&& !decide (y=x)) cnt'→cnt' < cnt→w.grownBy w' (some r)→w'.heap.size=w.heap.size→
   (Instr.entry (.pointer (some ⟨r,0,none⟩))).run P w'=.ok (.tuple #[T.enc x,v]) w'→wpListIn F nF P ops Q rest (a.put o.dst (.tuple #[.bool true,T.enc x,v])) w'):wpListIn F nF P ops Q (o ::rest) a w:=by
 refine wpListIn_plain hg fun K' hK'=>?_;unfold Oper.wpIn;refine⟨by simp[Oper.about,hop],?_⟩;rw[Oper.semAt_plain F _ _ (by rw[hop];intro c hc';cases hc')];rcases h.next o.type with ⟨h0,hl,hrun⟩ | ⟨x,v,w',cnt',h1,h2,h3,hrun,h4,h5,h6,h7,h8⟩
 ·simp[execOp,hop,hit,hrun,Result.andThen];exact hK' _ _ (hDone h0 hl)
 ·simp[execOp,hop,hit,hrun,Result.andThen];exact hK' _ _ (hMore x v w' cnt' h1 h2 h3 h4 h5 h6 h7 h8)
theorem ORange.iter_walk {r cnt:Nat}{S:α→Bool}(h:ORange T w b r n f S cnt):∃ o:Obj,w.heap[r]? = some o∧o.isWalk=true:=by
 obtain⟨D,left,h1,_⟩:=h;exact h1.iter_walk
theorem ORange.of_walks {r cnt:Nat}{S:α→Bool}{w':World}(h:ORange T w b r n f S cnt)(hk:KeepsWalks w w'):ORange T w' b r n f S cnt:=by
 obtain⟨D,left,h1,h2,h3⟩:=h;exact⟨D,left,h1.of_walks hk,h2,h3⟩
end
def ValsOf (f:Tx→Option Value)(xs:List Value):Prop:=∃ ks:List Tx,ks.Nodup∧(∀ s,s.length≤maxLen→(s∈ks↔(f s).isSome=true))∧(∀ s∈ks,s.length≤maxLen)∧xs.map some=ks.map f
set_option maxRecDepth 100000 in
set_option maxHeartbeats 1000000 in
theorem vals1_in (n:Nat)(hn:1≤n)(l Bm b nn:Nat)(f:Tx→Option Value)(J Jx:List Value→World→Prop)
  (hY:∀ pre x W,J pre W→pre.length < nn→(∃ s,f s=some x)→YieldAt Fence.wide (n-1) Tryz.prog l #[x] W fun e W'=>
   (e=.returned (.bool true)∧J (pre++ [x]) W'∧KeepsWalks W W')∨(e=.returned (.bool false)∧Jx (pre++ [x]) W'))
  (W:World)(hJ:AbidesFrom W.heap.size J)(hm:W.cell? ⟨Bm,0,none⟩=some (.map (some b)))(hO:OMap KS W b nn f)(h0:J [] W) :
  CallsIn Fence.wide n Tryz.prog 112 #[.func (.yield l) #[] #[],.pointer (some ⟨Bm,0,none⟩)] W fun e W'=>(∃ v,e=.returned v)∧
   ((∃ xs,ValsOf f xs∧J xs W')∨(∃ pre,True∧Jx pre W')):=by
 refine callsIn_of_wp Tryz.func112 rfl trivial ?_ rfl;simp only[Tryz.ntmps112,List.size_toArray,List.length_cons,List.length_nil,Nat.reduceAdd,Nat.reduceSub,Array.replicate_succ,Array.replicate_zero,List.push_toArray,List.append_toArray,List.nil_append,List.cons_append];have hJh:=qK hJ;have hYh:=qK hY;clear hJ hY
 gi_wp2_with (first
  | (gi_at_range;refine zD2 rfl _ 118 rfl 80 Tryz.underlying118 rfl hO ?_;intro w0 cnt0 hrg0 hg0 hs0 hc0)
  | gi_in)
 go_frame
 have hO2:ORange KS w0 b W.heap.size nn f (fun s=>(f s).isSome&& !decide (s∈([]:List Tx))) cnt0:=by simpa using hrg0
 have HJ0:=qK (hJh.out [] W w0 none h0 hg0 (fun r e=>by cases e));clear hrg0 h0 hO
 gi_loopw [4] (fun _ wr=>∃ (cnt:Nat) (ks:List Tx) (xs:List Value),ORange KS wr b W.heap.size nn f (fun s=>(f s).isSome&& !decide (s∈ks)) cnt∧Hid (xs.length+cnt≤nn∧ks.Nodup∧(∀ s∈ks,s.length≤maxLen∧(f s).isSome=true)∧xs.map some=ks.map f)∧J xs wr)
  (fun _ wr=>wr.rangeLeft b W.heap.size)
 case atStart=>
  exact⟨_,[],[],hO2,qK ⟨by simpa using hc0,List.nodup_nil,by simp,rfl⟩,HJ0.out⟩
 case round=>
  obtain⟨cnt,ks,xs,hrg,HK,hJs⟩:=hrel
  gi_wp2_with (first
   | (gi_at_next;refine zC9 rfl _ rfl rfl hrg ?_ ?_)
   | gi_in)
  ·
   intro hc0 hl0
   gi_wp2
   go_end0
   refine⟨⟨_,rfl⟩,.inl ⟨xs,⟨ks,HK.out.2.1,fun s hs=>?_,fun s hs=>(HK.out.2.2.1 s hs).1,HK.out.2.2.2⟩,hJs⟩⟩;have h:=hl0 s hs;constructor
   ·exact fun hm=>(HK.out.2.2.1 s hm).2
   ·intro hm;rw[hm] at h;simpa using h
  ·intro x v w2 cnt2 hx hS hnm hfx hrg2 hlt hg2 hs2 hen;have hJ2:J xs w2:=hJh.out xs wr w2 (some W.heap.size) hJs hg2 (fun r e=>by cases e;exact⟨Nat.le_refl _,hrg.iter_walk⟩);obtain⟨fn,tmps,assign,body,hy,hR⟩:=hYh.out xs v w2 hJ2 (by have:=HK.out.1;omega) ⟨x,hfx⟩;clear hs2;have HX:=qK (show x.length≤maxLen∧x∉ks from⟨hx,by simpa using hnm⟩);have HFx:=qK hfx;clear hx hS hnm hfx;change (Instr.entry (.pointer (some ⟨W.heap.size,0,none⟩))).run Tryz.prog w2=.ok (.tuple #[.string ⟨x.toArray⟩,v]) w2 at hen
   gi_wp2
   refine hR.mono ?_;rintro e W3 (⟨rfl,hJ3,hk3⟩ | ⟨rfl,hJx3⟩)
   ·gi_wp2
    have hrg3:=hrg2.of_walks hk3;go_roundw
    case rel=>
     obtain⟨k1,k2,k3,k4⟩:=HK.out;refine⟨cnt2,ks++ [x],xs++ [v],hrg3.congr fun s=>?_,qK ⟨by simp;omega,?_,fun s hs=>?_,by simp[k4,HFx.out]⟩,hJ3⟩
     ·simp[Bool.and_assoc]
     ·rw[List.nodup_append];refine⟨k2,by simp,fun a ha c hc=>?_⟩;simp only[List.mem_singleton] at hc;rintro rfl;exact HX.out.2 (hc▸ha)
     ·rcases List.mem_append.1 hs with hs | hs
      ·exact k3 s hs
      ·simp only[List.mem_singleton] at hs;subst hs;exact⟨HX.out.1,by rw[HFx.out];rfl⟩
    case measure=>rw[hrg3.left_eq,hrg.left_eq];exact hlt
   ·gi_wp2
    refine bodyPost_ret (results_none rfl _ _ _) rfl ?_;exact⟨⟨_,rfl⟩,.inr ⟨_,trivial,hJx3⟩⟩
theorem yC1 (n:Nat)(hn:1≤n)(Bm b nn:Nat)(f:Tx→Option Value)(hf:∀ s v,f s=some v→∃ c,v=lptr c)(w:World)(hBm:Bm < w.heap.size)(hm:w.cell? ⟨Bm,0,none⟩=some (.map (some b)))(hO:OMap KS w b nn f) :
  SeqStopsK Fence.wide n Tryz.prog 112 #[.pointer (some ⟨Bm,0,none⟩)] (fun c:Nat=>#[Value.pointer (some ⟨c,0,none⟩)]) KeepsWalks (fun bs=>ValsOf f (bs.map lptr)) (fun _=>True) nn w:=fun l J Jx W hW hJ hJx hY h0=>by
 have hab:∀ {J:List Nat→World→Prop},AbidesFrom W.heap.size J→AbidesFrom W.heap.size (fun(xs:List Value) W'=>∃ bs,xs=bs.map lptr∧J bs W'):=fun hJ xs W1 W2 row ⟨bs,e,h⟩ hg hr=>⟨bs,e,hJ bs W1 W2 row h hg hr⟩;refine(vals1_in n hn l Bm b nn f (fun xs W'=>∃ bs,xs=bs.map lptr∧J bs W') (fun xs W'=>∃ bs,xs=bs.map lptr∧Jx bs W') (fun pre x W1 hpre hlt hx=>?_) W (hab hJ) ((hW.cell (p:=⟨Bm,0,none⟩) hBm).trans hm) (hO.below hW) ⟨[],rfl,h0⟩).mono ?_
 ·obtain⟨bs,rfl,hJ1⟩:=hpre;obtain⟨s,hs⟩:=hx;obtain⟨c,rfl⟩:=hf s x hs;obtain⟨fn,tmps,assign,body,hy,hR⟩:=hY bs c W1 hJ1 (by simpa using hlt);refine⟨fn,tmps,assign,body,hy,hR.mono ?_⟩;rintro e W2 (⟨h1,h2,h3⟩ | ⟨h1,h2⟩)
  ·exact .inl ⟨h1,⟨bs++ [c],by simp,h2⟩,h3⟩
  ·exact .inr ⟨h1,bs++ [c],by simp,h2⟩
 ·rintro e W2 ⟨h1,h2 | h2⟩
  ·obtain⟨xs,h3,bs,rfl,h4⟩:=h2;exact⟨h1,.inl ⟨bs,h3,h4⟩⟩
  ·obtain⟨xs,_,bs,_,h4⟩:=h2;exact⟨h1,.inr ⟨bs,trivial,h4⟩⟩
set_option maxHeartbeats 1000000 in
theorem yX6 (mb:Option Nat)(w:World):Calls Tryz.prog 74 #[.map mb] w fun e w'=>e=.returned (.func (.func 112) #[] #[.pointer (some ⟨w.heap.size,0,none⟩)])∧w'=w.alloc (.cells #[.map mb] 118):=by
 go_enter Tryz.func74,Tryz.ntmps74
 go_wp2;go_ret;exact⟨rfl,rfl⟩
theorem elLet:ElT Tryz.prog 84 80 1 8:=ElT.mk_ (z:=.pointer none) Tryz.underlying84 qF rfl (by decide)
def yH9 (w:World)(v0:Value)(bs0:List Nat)(f:Tx→Option Value)(e:Ending)(w':World):Prop:=
 ∃ v bs,e=.returned v∧ValsOf f (bs.map lptr)∧w'.ownsRow 0 80 1 v (bs0++bs).length ((bs0++bs).map lptr)∧Kp (fun b=>v0.ownBlock=some b) w w'∧(v.ownBlock=v0.ownBlock∨∃ g,v.ownBlock=some g∧w.heap.size≤g)
theorem row_pos {w:World}{base e size n:Nat}{v:Value}{xs:List Value}(h:w.ownsRow base e size v n xs)(hn:0 < n):∃ g c,v=.slice (some ⟨g,0,none⟩) n c:=by
 rcases h.2 with ⟨_,h⟩ | ⟨g,cap,cur,rfl,_⟩
 ·omega
 ·exact⟨g,cap,rfl⟩
theorem xY8 {W w1:World}{B:Nat}{t e:TypeId}{size:Nat}{v v':Value}{k m:Nat}{xs ys:List Value}
  (hv:Boxed W B t v)(hte:t≠e)(hrow:W.ownsRow 0 e size v k xs)(hown':w1.ownsRow 0 e size v' m ys)(hgrow:W.grownBy w1 v.ownBlock) :
  Boxed w1 B t v∧Boxed (w1.setCell ⟨B,0,none⟩ v') B t v'∧(w1.setCell ⟨B,0,none⟩ v').ownsRow 0 e size v' m ys∧KeepsOthers W (w1.setCell ⟨B,0,none⟩ v'):=by
 have hv1:Boxed w1 B t v:=hv.kept hgrow (hv.not_row hte hrow);refine⟨hv1,hv1.set v',hown'.kept (grownBy_setCell' w1 B v') (.inr (hv1.not_row hte hown').symm),?_⟩;refine(KeepsOthers.of_grownBy hgrow fun j o ej hj=>?_).trans (KeepsOthers.setCell _ _ _);rcases hrow.2 with ⟨rfl,_⟩ | ⟨g,cap,cur,rfl,_,hgb,_⟩
 ·simp[Value.ownBlock] at ej
 ·obtain rfl:g=j:=by simpa[Value.ownBlock] using ej
  rw[hgb] at hj;cases hj;rfl
theorem kpFrom {β:Type}{M:Nat→Prop}{w:World}{B:Nat}(hB:w.heap.size≤B):OwnFrom B (fun(_:β) W=>Kp M w W):=
 fun _ _ _ _ hs hg hr=>hs.grown hg fun k e=>.inr (Nat.le_trans hB (hr k e).1)
set_option maxRecDepth 100000 in
set_option maxHeartbeats 2000000 in
theorem yO8 (v0:Value)(bs0:List Nat)(b nn Bm:Nat)(f:Tx→Option Value)(hf:∀ s v,f s=some v→∃ c,v=lptr c)(w:World)(hrow:w.ownsRow 0 80 1 v0 bs0.length (bs0.map lptr))(hBm:Bm < w.heap.size)(hm:w.cell? ⟨Bm,0,none⟩=some (.map (some b)))(hO:OMap KS w b nn f)(hlen:bs0.length+nn≤1099511627776) :
  CallsIn Fence.wide 3 Tryz.prog 111 #[v0,.func (.func 112) #[] #[.pointer (some ⟨Bm,0,none⟩)]] w (yH9 w v0 bs0 f):=by
 obtain⟨hT,_,i0,z0,hi,hz,hs0,hby,hzs⟩:=elLet;obtain⟨A0,c0,rfl⟩:∃ A0 c0,v0=.slice A0 bs0.length c0:=by
  have hA:Acc w 0 80 1 v0 bs0.length (bs0.map lptr):=.inl hrow;exact hA.shape
 refine callsIn_of_wp_marks Tryz.func111 rfl trivial ?_ rfl;simp only[Tryz.ntmps111,List.size_toArray,List.length_cons,List.length_nil,Nat.reduceAdd,Nat.reduceSub,Array.replicate_succ,Array.replicate_zero,List.push_toArray,List.append_toArray,List.nil_append,List.cons_append]
 gi_wp2
 have bO:=Boxed.new w 84 (.slice A0 bs0.length c0);have bR:=World.ownsRow.alloc hrow (.cells #[.slice A0 bs0.length c0] 84);have hK0:Kp (fun b=>(Value.slice A0 bs0.length c0).ownBlock=some b) w (w.alloc (.cells #[.slice A0 bs0.length c0] 84)):=(Kp.refl _ _).alloc _;have hz1:(w.alloc (.cells #[.slice A0 bs0.length c0] 84)).heap.size=w.heap.size+1:=by simp
 have hO0:=hO.alloc (.cells #[.slice A0 bs0.length c0] 84);have hm0:=zY1 ((Below.refl w.heap.size w).alloc qJ (.cells #[.slice A0 bs0.length c0] 84)) hm;obtain⟨W0,hW0⟩:∃ W0,w.alloc (.cells #[.slice A0 bs0.length c0] 84)=W0:=⟨_,rfl⟩;rw[hW0] at bO bR hK0 hz1 hO0 hm0 ⊢;clear hW0;generalize hv0:Value.slice A0 bs0.length c0=v0 at *;refine wpIn_rangeFunc_ownF rfl (by decide) (gf:=112) (lb:=#[.pointer (some ⟨Bm,0,none⟩)]) rfl trivial (enters_of Tryz.func112 qF rfl)
  (yC1 2 (by decide) Bm b nn f hf W0 qG hm0 hO0) (fun h k=>walksK_t h k) (fun W l o o' hl ho h1 h2=>walksK_b (w:=W0) W l o o' hl ho h1 h2) qH (fun _=>rfl)
  (fun pre W=>(∃ v,Boxed W w.heap.size 84 v∧W.ownsRow 0 80 1 v (bs0.length+pre.length) ((bs0++pre).map lptr)∧(v.ownBlock=v0.ownBlock∨∃ g,v.ownBlock=some g∧w.heap.size≤g))∧Kp (fun b=>v0.ownBlock=some b) w W)
  (fun _ _ _=>False)
  (OwnFrom.and (Own.from (holdsRow_own 0 w.heap.size 84 80 1 (fun pre=>bs0.length+pre.length) (fun pre=>(bs0++pre).map lptr) (fun _ v=>(v.ownBlock=v0.ownBlock∨∃ g,v.ownBlock=some g∧w.heap.size≤g))) _) (kpFrom qG))
  (fun _ _ _ _ _ hs _ _=>hs)
  ⟨⟨_,bO,by simpa using bR,.inl rfl⟩,hK0⟩
  (fun x=>{tmps:=#[v0,.func (.func 112) #[] #[.pointer (some ⟨Bm,0,none⟩)],.pointer (some ⟨w.heap.size,0,none⟩),undef,.slice none 0 0,Value.pointer (some ⟨x,0,none⟩),.func (.func 112) #[] #[.pointer (some ⟨Bm,0,none⟩)],Value.pointer (some ⟨x,0,none⟩),undef,undef,undef,undef,undef],defers:=[]}) ?assign ?body ?done ?stop
 case assign=>
  intro l x W K hK
  gi_wp2_with (rw[Oper.semAt_eq _ _ _ (fun c h=>by cases h)];go_simp;try go_bits)
  exact hK
 case body=>
  rintro l pre x W ⟨⟨v,hv,hrow,hg⟩,hK⟩ hlt;have hc:=hv.cell;have hle:=hK.size;have hva:=hv.alloc (.cells #[.pointer (some ⟨x,0,none⟩)] 80);have hra:=hrow.alloc (.cells #[.pointer (some ⟨x,0,none⟩)] 80);have hka:=hK.alloc (.cells #[.pointer (some ⟨x,0,none⟩)] 80);have hza:(W.alloc (.cells #[.pointer (some ⟨x,0,none⟩)] 80)).heap.size=W.heap.size+1:=by simp
  have hoa:=KeepsOthers.alloc W (.cells #[.pointer (some ⟨x,0,none⟩)] 80);have hnw:(W.alloc (.cells #[.pointer (some ⟨x,0,none⟩)] 80)).cell? ((⟨W.heap.size,0,none⟩:Addr).add 0)=some (.pointer (some ⟨x,0,none⟩)):=cell_one_new _ _ _ 0 _ rfl;have Hlt:=qK hlt
  gi_wp2_with (first
   | (gi_at_builtin;refine wpListIn_append_own_at _ rfl (.tmp 8) (.tmp 10) 84 rfl 0 80 i0 z0 1 8 hT hi hz hs0 hby hzs (by decide) v _ _ rfl hra ⟨W.heap.size,0,none⟩ 1 1 [lptr x] rfl rfl (cell_one_new _ _ _) (by simp[Value.oneCell',lptr]) (by have:=Hlt.out;simp only[maxLen];omega) (by have:=Hlt.out;omega) qG ?_;intro v' w1 hown' hgrow _ hob'
      obtain⟨g',cap',rfl⟩:=row_pos hown' qG;obtain⟨hv1,hv2,hr2,hk2⟩:=xY8 hva (by decide) hra hown' hgrow;have hc1:=hv1.cell;have hf1:=hv1.frozen)
   | (rw[Oper.semAt_eq _ _ _ (fun c h=>by cases h)];go_simp;try go_bits))
  have e1:(bs0++pre).map lptr++ [lptr x]=(bs0++(pre++ [x])).map lptr:=by simp
  have e2:bs0.length+pre.length+1=bs0.length+(pre++ [x]).length:=by simp;omega
  rw[e1] at hr2;refine⟨hoa.trans hk2,(hoa.trans hk2).walks,⟨_,hv2,e2▸hr2,?_⟩,?_⟩
  ·rcases hob' with h | h
   ·rcases hg with h2 | ⟨g2,h2,h3⟩
    ·exact .inl (h.trans h2)
    ·exact .inr ⟨g2,h.trans h2,h3⟩
   ·exact .inr ⟨_,h,by omega⟩
  ·refine(hka.grown hgrow fun j hj=>?_).setNew (by show w.heap.size≤w.heap.size;omega) _;rcases hg with h2 | ⟨g2,h2,h3⟩
   ·exact .inl (h2▸hj)
   ·rw[h2] at hj;injection hj with hj
    exact .inr (hj▸h3)
 case done=>
  rintro D ys W hD hS ⟨⟨v,hv,hrow,hg⟩,hK⟩ hD0;have hc:=hv.cell;obtain⟨A1,c1,rfl⟩:∃ A1 c1,v=.slice A1 (bs0.length+ys.length) c1:=by
   have hA:Acc W 0 80 1 v (bs0.length+ys.length) ((bs0++ys).map lptr):=.inl hrow;exact hA.shape
  gi_wp2
  refine⟨by simp,.inl ⟨_,_,rfl,run_takeDeferred hD0,?_⟩⟩;refine⟨_,results_tmp rfl _ _ _,.slice A1 (bs0.length+ys.length) c1,ys,rfl,hS,?_,?_,hg⟩
  ·rw[List.length_append];refine hrow.kept (grownBy_putObj' _ _ _) ?_;rcases hrow.2 with ⟨h,_⟩ | ⟨g,cap,cur,h,_,hgb,_⟩
   ·exact .inl (by rw[h];rfl)
   ·refine .inr fun e'=>?_;rw[h] at e';have:g=D:=by simpa[Value.ownBlock] using e'
    subst this;rw[hgb] at hD0;cases hD0
  ·exact hK.grown (grownBy_putObj' _ _ _) fun j hj=>.inr (by cases hj;omega)
 case stop=>
  rintro D c pre W _ _ h _;exact h.elim
theorem zG0 (v0:Value)(bs0:List Nat)(b nn Bm:Nat)(f:Tx→Option Value)(hf:∀ s v,f s=some v→∃ c,v=lptr c)(w:World)(hrow:w.ownsRow 0 80 1 v0 bs0.length (bs0.map lptr))(hBm:Bm < w.heap.size)(hm:w.cell? ⟨Bm,0,none⟩=some (.map (some b)))(hO:OMap KS w b nn f)(hlen:bs0.length+nn≤1099511627776) :
  Calls Tryz.prog 111 #[v0,.func (.func 112) #[] #[.pointer (some ⟨Bm,0,none⟩)]] w (yH9 w v0 bs0 f):=
 callsIn_wide.1 (yO8 v0 bs0 b nn Bm f hf w hrow hBm hm hO hlen)
set_option maxHeartbeats 1000000 in
theorem yK8 (b nn Bm:Nat)(f:Tx→Option Value)(hf:∀ s v,f s=some v→∃ c,v=lptr c)(w:World)(hBm:Bm < w.heap.size)(hm:w.cell? ⟨Bm,0,none⟩=some (.map (some b)))(hO:OMap KS w b nn f)(hlen:nn≤1099511627776) :
  Calls Tryz.prog 73 #[.func (.func 112) #[] #[.pointer (some ⟨Bm,0,none⟩)]] w (yH9 w (.slice none 0 0) [] f):=by
 have cA:=zG0 (.slice none 0 0) [] b nn Bm f hf w (World.ownsRow_nil _ _ _ _) hBm hm hO (by simpa using hlen);go_enter Tryz.func73,Tryz.ntmps73
 go_wp2_with fail
 refine cA.mono ?_;rintro e w' ⟨v,bs,rfl,h2,h3,h4⟩;obtain⟨A1,c1,rfl⟩:∃ A1 c1,v=.slice A1 ([]++bs:List Nat).length c1:=by
  have hA:Acc w' 0 80 1 v ([]++bs:List Nat).length (([]++bs:List Nat).map lptr):=.inl h3;exact hA.shape
 have H:=qK (show ValsOf f (bs.map lptr)∧w'.ownsRow 0 80 1 (.slice A1 ([]++bs:List Nat).length c1) ([]++bs:List Nat).length (([]++bs:List Nat).map lptr)∧_ from⟨h2,h3,h4⟩);clear h2 h3 h4;generalize hn:([]++bs:List Nat).length=n1 at H ⊢;go_wp2;go_ret;exact⟨_,bs,rfl,H.out.1,by rw[hn];exact H.out.2.1,H.out.2.2⟩
end Go.Proofs.YtdgehhgjgifikaaGreatDoor
