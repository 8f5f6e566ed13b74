/- What the claim needs of:TA Mem PB Mem2 TK YA. -/
import Derived.Deep.Slices
import Derived.Below
import Derived.Laws.OwnMore
import Derived.Deep.AppendLies
import Derived.Deep.Draws
import Derived.OwnWalk
import Derived.Maps.AppendAt
import Derived.ArgAppend
import Derived.RegionTactic
import Derived.Laws.IdiomStrings
import Derived.Laws.BytesString
import GoSem.Step
import Derived.Test.YtdgehhgjgifikaaGreatDoorProg
import Derived.WalkKit
import Derived.Lib.Hide
import Derived.WalkSpells
import Derived.WalkLawsBesides
import Derived.Deep.QuietTactic
import Derived.BigQuiet
import Derived.Deep.DeepCutAuto
import Derived.Deep.CutBlock
import Derived.Outline
import Derived.WalkMore
namespace Go.Proofs.YtdgehhgjgifikaaGreatDoor
abbrev Tx:=List UInt8
mutual
inductive E where
 | mk (k:Int) (t:Tx) (n:Int) (a b:Tx) (subs:List E) (decls:List D) (tail:List Tx) (pos:Int)
inductive D where
 | mk (k p:Int) (l a b:Tx) (subs:List E) (body:List D) (tail lead:List Tx) (trail:Tx) (pos:Int)
end
structure Imp where
 name:Tx
 path:Tx
 pos:Int
structure Fl where
 pkg:Tx
 imps:List Imp
 decls:List D
 tail:List Tx
structure Pk where
 path:Tx
 files:List Fl
namespace E
def k:E→Int | mk k _ _ _ _ _ _ _ _=>k
def t:E→Tx | mk _ t _ _ _ _ _ _ _=>t
def n:E→Int | mk _ _ n _ _ _ _ _ _=>n
def a:E→Tx | mk _ _ _ a _ _ _ _ _=>a
def b:E→Tx | mk _ _ _ _ b _ _ _ _=>b
def subs:E→List E | mk _ _ _ _ _ s _ _ _=>s
def decls:E→List D | mk _ _ _ _ _ _ d _ _=>d
def tail:E→List Tx | mk _ _ _ _ _ _ _ t _=>t
def pos:E→Int | mk _ _ _ _ _ _ _ _ p=>p
end E
namespace D
def k:D→Int | mk k _ _ _ _ _ _ _ _ _ _=>k
def p:D→Int | mk _ p _ _ _ _ _ _ _ _ _=>p
def l:D→Tx | mk _ _ l _ _ _ _ _ _ _ _=>l
def a:D→Tx | mk _ _ _ a _ _ _ _ _ _ _=>a
def b:D→Tx | mk _ _ _ _ b _ _ _ _ _ _=>b
def subs:D→List E | mk _ _ _ _ _ s _ _ _ _ _=>s
def body:D→List D | mk _ _ _ _ _ _ s _ _ _ _=>s
def tail:D→List Tx | mk _ _ _ _ _ _ _ t _ _ _=>t
def lead:D→List Tx | mk _ _ _ _ _ _ _ _ l _ _=>l
def trail:D→Tx | mk _ _ _ _ _ _ _ _ _ t _=>t
def pos:D→Int | mk _ _ _ _ _ _ _ _ _ _ p=>p
end D
theorem zM9 {P:E→Prop}{Q:D→Prop}{P':List E→Prop}{Q':List D→Prop}
  (h1:∀ k t n a b subs decls tail pos,P' subs→Q' decls→P (.mk k t n a b subs decls tail pos))
  (h2:∀ k p l a b subs body tail lead trail pos,P' subs→Q' body→Q (.mk k p l a b subs body tail lead trail pos))
  (h3:P' [])(h4:∀ e l,P e→P' l→P' (e ::l))(h5:Q' [])(h6:∀ d l,Q d→Q' l→Q' (d ::l)) :
  (∀ e,P e)∧(∀ d,Q d)∧(∀ l,P' l)∧∀ l,Q' l:=
 ⟨fun e=>E.rec (motive_1:=P) (motive_2:=Q) (motive_3:=P') (motive_4:=Q') h1 h2 h3 h4 h5 h6 e,
  fun d=>D.rec (motive_1:=P) (motive_2:=Q) (motive_3:=P') (motive_4:=Q') h1 h2 h3 h4 h5 h6 d,
  fun l=>E.rec_1 (motive_1:=P) (motive_2:=Q) (motive_3:=P') (motive_4:=Q') h1 h2 h3 h4 h5 h6 l,
  fun l=>E.rec_2 (motive_1:=P) (motive_2:=Q) (motive_3:=P') (motive_4:=Q') h1 h2 h3 h4 h5 h6 l⟩
def zV8 (c:UInt8):Bool:=(decide (97≤c)&&decide (c≤122))||(decide (65≤c)&&decide (c≤90))
def yK8 (c:UInt8):Bool:=decide (48≤c)&&decide (c≤57)
def wordsI:List Tx:=[[110,117,108,108],[116,114,117,101],[102,97,108,115,101],[98,111,111,108],[105,110,116],[110,117,109,98,101,114],[115,116,114,105,110,103],[108,101,116],[105,102],[102,111,114],[105,110],[112,97,99,107,97,103,101],[105,109,112,111,114,116]]
def zP8:Tx→Tx
 | c ::s=>if c=35∨c=95 then s else c ::s
 | []=>[]
def yR2 (s:Tx):Bool:=s.all fun c=>zV8 c||yK8 c||decide (c=95)
def zY8 (s:Tx):Bool:=decide (s.length≤32)&& !decide (s∈wordsI)&&(match zP8 s with | []=>false | c ::r=>zV8 c&&yR2 (c ::r))
def zY4 (l:List Tx):Bool:=l.any fun s=>decide ((10:UInt8)∈s)
def yZ2 (a b:Tx):Bool:=zY8 a&&zY8 b&& !decide (a=b)
def yB3:List Tx:=[[110,117,108,108],[98,111,111,108],[105,110,116],[110,117,109,98,101,114],[115,116,114,105,110,103]]
def yR3:List Tx:=[[60],[60,61],[62],[62,61],[33,61],[61,126],[33,126]]
def yR4:List Tx:=[[45],[33]]
def zE9:List Tx:=[[43],[45],[42],[47],[37],[61,61],[33,61],[60],[60,61],[62],[62,61],[38,38],[124,124]]
def zM0:Tx:=[102,105,101,108,100]
def wLet:Tx:=[108,101,116]
def zD0:Tx:=[108,111,111,112]
def zT7:Tx:=[112,97,99,107,97,103,101]
def zT8:Tx:=[117,110,107,110,111,119,110]
def countP (k:Int)(m:Nat):Bool:=
 if k=9∨k=11∨k=18∨k=19 then decide (m=1)
 else if k=12∨k=16∨k=20 then decide (m=2)
 else if k=15 then decide (m=2∨m=3)
 else if k=5 then decide (1≤m)
 else if k=17 then decide (2≤m)
 else if k=14∨k=21 then true
 else decide (m=0)
def wordP (k:Int)(t:Tx):Bool:=
 if k=4∨k=11 then true
 else if k=8 then decide (t∈yB3)
 else if k=9 then decide (t∈yR3)
 else if k=19 then decide (t∈yR4)
 else if k=20 then decide (t∈zE9)
 else if k=10∨k=21 then zY8 t
 else decide (t=[])
def yB4 (k n:Int)(m:Nat):Bool:=
 if k=2 then decide (n=0∨n=1)
 else if k=14 then decide (n=0∨(n=1∧0 < m))
 else if k=3 then decide (0≤n∧n≤1000000000000000)
 else decide (n=0)
def refP (n:Int)(a b:Tx)(m:Nat):Bool:=
 if a=[] then decide (b=[])&&decide (n=0)&&decide (m=0)
 else decide (a=zM0∨a=wLet∨a=zD0∨a=zT7∨a=zT8)&&decide (b=[])&&decide (0≤n)&&decide (m=if a=wLet then 1 else 0)
def yW1 (k:Int)(t:Tx)(n:Int)(a b:Tx)(m m2:Nat)(tail:List Tx):Bool:=
 decide (1≤k∧k≤22)&&wordP k t&& !zY4 tail&&(decide (k=13∨k=22)||decide (m2=0∧tail=[])) &&
  (if k=10 then refP n a b m else countP k m&&yB4 k n m&&(if k=15 then yZ2 a b else decide (a=[]∧b=[])))
def yR5 (rx:Tx→Bool)(k p:Int)(l a b:Tx)(m m2:Nat)(tail lead:List Tx)(trail:Tx):Bool:=
 decide (1≤k∧k≤8)&& !zY4 lead&& !zY4 [trail]&& !zY4 tail&&decide (m=if k=7 then 2 else if k=8 then 0 else 1) &&
  (if k=1 then decide (1≤p∧p≤3) else decide (p=0))&&(decide (k=5∨k=6)||decide (m2=0∧tail=[])) &&
  (if k=6 then yZ2 a b else decide (a=[]∧b=[])) &&
  (if k=1 then true else if k=2 then rx l else if k=4 then zY8 l else decide (l=[]))
mutual
def okE (rx:Tx→Bool):E→Bool→Bool→Bool→Bool
 | .mk k t n a b subs decls tail _,cj,mk,ea=>
   yW1 k t n a b subs.length decls.length tail&& !(decide (k=18)&& !mk)&& !(decide (k=15)&& !ea)&& !(decide (k=13)&& !cj)&& !(decide (k=22)&&cj) &&
    okEs rx (decide ((k=16∧cj=true)∨k=10)) (decide (k=17)) (decide (k=14)) (decide (n=0)) subs&&okDs rx (decide (k=13)) decls
def okEs (rx:Tx→Bool)(cj mk li la:Bool):List E→Bool
 | []=>true
 | e ::r=>okE rx e cj mk (li&&(la|| !r.isEmpty))&&okEs rx cj mk li la r
def okD (rx:Tx→Bool)(top:Bool):D→Bool
 | .mk k p l a b subs body tail lead trail _=>
   yR5 rx k p l a b subs.length body.length tail lead trail&&(top|| !(decide (k=4∨k=8)))&&okDs rx false body&&okDE rx (top&&decide (k=1∨k=2∨k=3∨k=4)) subs
def okDE (rx:Tx→Bool)(cj:Bool):List E→Bool
 | []=>true
 | e ::r=>okE rx e cj false false&&okDE rx cj r
def okDs (rx:Tx→Bool)(top:Bool):List D→Bool
 | []=>true
 | d ::r=>okD rx top d&&okDs rx top r
end
mutual
def dpE:E→Nat
 | .mk _ _ _ _ _ subs decls _ _=>max (dpEs subs) (dpDs decls)+1
def dpEs:List E→Nat
 | []=>0
 | e ::r=>max (dpE e) (dpEs r)
def dpD:D→Nat
 | .mk _ _ _ _ _ subs body _ _ _ _=>max (dpEs subs) (dpDs body)+1
def dpDs:List D→Nat
 | []=>0
 | d ::r=>max (dpD d) (dpDs r)
end
def okF (rx:Tx→Bool)(f:Fl):Bool:=(decide (f.pkg=[])||zY8 f.pkg)&& !zY4 f.tail&&okDs rx true f.decls&&f.imps.all fun x=>zY8 x.name
def errF (rx:Tx→Bool)(f:Fl):Int:=if okF rx f=false then 11 else if 16 < dpDs f.decls then 9 else 0
open Go.RowKit
structure BelowD (B:Nat)(w w':World):Prop extends Below B w w' where
 drawn:w.drawn≤w'.drawn
section
variable {B B':Nat}{a w w':World}
theorem BelowD.refl (B:Nat)(w:World):BelowD B w w:=⟨Below.refl B w,Nat.le_refl _⟩
theorem BelowD.trans (h:BelowD B a w)(k:BelowD B w w'):BelowD B a w':=⟨h.toBelow.trans k.toBelow,Nat.le_trans h.drawn k.drawn⟩
theorem BelowD.mono (h:BelowD B w w')(hB:B'≤B):BelowD B' w w':=⟨h.toBelow.mono hB,h.drawn⟩
theorem BelowD.drew (h:BelowD B a w):BelowD B a w.drew:=⟨h.toBelow.drew,Nat.le_succ_of_le h.drawn⟩
theorem BelowD.drewN (h:BelowD B a w)(n:Nat):BelowD B a (w.drewN n):=⟨⟨h.os,h.tape,h.output,h.size,h.block⟩,Nat.le_add_right_of_le h.drawn⟩
theorem BelowD.alloc (h:BelowD B a w)(hB:B≤w.heap.size)(o:Obj):BelowD B a (w.alloc o):=⟨h.toBelow.alloc hB o,h.drawn⟩
theorem BelowD.setCell (h:BelowD B a w){p:Addr}(hp:B≤p.block)(u:Value):BelowD B a (w.setCell p u):=⟨h.toBelow.setCell hp u,h.drawn⟩
end
def Sl {α:Type}(w:World)(B k:Nat)(enc:α→List Value)(A:Option Addr)(l:List α):Prop:=
 l=[]∨∃ b off,A=some ⟨b,off,none⟩∧b < B∧∀ (i:Nat) (h:i < l.length) (j:Nat) (v:Value),(enc l[i])[j]? = some v→w.cell? ⟨b,off+i*k+j,none⟩=some v
section
variable {α:Type}{w w':World}{B B' k:Nat}{enc:α→List Value}{A:Option Addr}{l:List α}
theorem Sl.nil_:Sl w B k enc A ([]:List α):=.inl rfl
theorem Sl.keep (h:Sl w B k enc A l)(hk:∀ p:Addr,p.block < B→w'.cell? p=w.cell? p):Sl w' B k enc A l:=by
 rcases h with h | ⟨b,off,e,hb,hc⟩
 ·exact .inl h
 ·exact .inr ⟨b,off,e,hb,fun i hi j v hv=>(hk _ hb).trans (hc i hi j v hv)⟩
theorem Sl.more (h:Sl w B k enc A l)(hB:B≤B'):Sl w B' k enc A l:=by
 rcases h with h | ⟨b,off,e,hb,hc⟩
 ·exact .inl h
 ·exact .inr ⟨b,off,e,Nat.lt_of_lt_of_le hb hB,hc⟩
theorem Sl.below (h:Sl w B k enc A l)(hb:Below B w w'):Sl w' B k enc A l:=h.keep fun _ hp=>hb.cell hp
theorem Sl.at_ (h:Sl w B k enc A l){i:Nat}(hi:i < l.length):∃ b off,A=some ⟨b,off,none⟩∧b < B∧∀ (j:Nat)(v:Value),(enc l[i])[j]? = some v→w.cell? ⟨b,off+i*k+j,none⟩=some v:=by
 rcases h with h | ⟨b,off,e,hb,hc⟩
 ·subst h;simp at hi
 ·exact⟨b,off,e,hb,hc i hi⟩
end
theorem yZ3 {w w':World}{p:Addr}{v:Value}(hb:Below w.heap.size w w')(h:w.cell? p=some v)(hp:p.block < w.heap.size):w'.cell? p=some v:=(hb.cell hp).trans h
theorem zH6 {w:World}{p:Addr}{v:Value}(h:w.cell? p=some v):p.block < w.heap.size:=by
 rcases Nat.lt_or_ge p.block w.heap.size with hlt | hge
 ·exact hlt
 ·simp[World.cell?,Array.getElem?_eq_none hge] at h
theorem zY3 {w w':World}{p:Addr}{v:Value}(hb:Below w.heap.size w w')(h:w.cell? p=some v):w'.cell? p=some v:=(hb.cell (zH6 h)).trans h
theorem zO6 {a b:Bool}(h:a=b):Ending.returned (.bool a)=.returned (.bool b):=by rw[h]
def encS (s:List UInt8):List Value:=[.string ⟨s.toArray⟩]
def ElT (P:Program)(t e size bytes:Nat):Prop:=
 P.underlying t=some (.slice e)∧0 < size∧∃ i z,P.info? e=some i∧i.zero=some z∧i.size=size∧i.bytes=bytes∧z.cells.size=size
theorem ElT.mk_ {P:Program}{t e size bytes:Nat}{z:Value}(h1:P.underlying t=some (.slice e))(h:(P.info? e).map (fun i=>(i.zero,i.size,i.bytes))=some (some z,size,bytes))
  (hz:z.cells.size=size)(h0:0 < size):ElT P t e size bytes:=by
 obtain⟨i,a,b,c,d⟩:=info_parts h
 exact⟨h1,h0,i,z,a,b,c,d,hz⟩
def Acc (w:World)(base e size:Nat)(v:Value)(n:Nat)(xs:List Value):Prop:=
 w.ownsRow base e size v n xs∨(xs.length=n*size∧∃ g off,v=.slice (some ⟨g,off,none⟩) n n∧g < w.heap.size∧∀ j u,xs[j]? = some u→w.cell? ⟨g,off+j,none⟩=some u)
def Src (w:World)(size:Nat)(A:Option Addr)(m:Nat)(news:List Value):Prop:=
 news.length=m*size∧(0 < m→∃ ad,A=some ad∧∀ j u,news[j]? = some u→w.cell? (ad.add j)=some u)
theorem Acc.length {w:World}{base e size n:Nat}{v:Value}{xs:List Value}(h:Acc w base e size v n xs):xs.length=n*size:=by
 rcases h with h | h
 ·exact h.1
 ·exact h.1
theorem Acc.nil_ (w:World)(base e size:Nat):Acc w base e size (.slice none 0 0) 0 []:=.inl (World.ownsRow_nil _ _ _ _)
theorem Acc.kept {w w':World}{base e size n:Nat}{v:Value}{xs:List Value}{row:Option Nat}(h:Acc w base e size v n xs)(hg:w.grownBy w' row)(hne:v.ownBlock=none∨v.ownBlock≠row):Acc w' base e size v n xs:=by
 rcases h with h | ⟨hl,g,off,rfl,hlt,hc⟩
 ·exact .inl (h.kept hg hne)
 ·refine .inr ⟨hl,g,off,rfl,Nat.lt_of_lt_of_le hlt hg.size,fun j u hu=>hg.cell (hc j u hu) ?_⟩
  rcases hne with hne | hne
  ·simp[Value.ownBlock] at hne
  ·simpa[Value.ownBlock] using hne
theorem Acc.below {w w':World}{base e size n:Nat}{v:Value}{xs:List Value}(h:Acc w base e size v n xs)(hb:Below w.heap.size w w'):Acc w' base e size v n xs:=
 h.kept (row:=none) ⟨hb.os,hb.tape,hb.output,hb.size,fun k hk _=>hb.block k hk⟩ (by rcases hv:v.ownBlock with _ | _ <;> simp)
theorem Acc.alloc {w:World}{base e size n:Nat}{v:Value}{xs:List Value}(h:Acc w base e size v n xs)(o:Obj):Acc (w.alloc o) base e size v n xs:=
 h.below ((Below.refl _ _).alloc (Nat.le_refl _) _)
theorem Acc.drewN {w:World}{base e size n:Nat}{v:Value}{xs:List Value}(h:Acc w base e size v n xs)(k:Nat):Acc (w.drewN k) base e size v n xs:=h
theorem Acc.shape {w:World}{base e size n:Nat}{v:Value}{xs:List Value}(h:Acc w base e size v n xs):∃ A c,v=.slice A n c:=by
 rcases h with h | ⟨_,g,off,rfl,_⟩
 ·rcases h.2 with ⟨rfl,rfl⟩ | ⟨g,cap,cur,rfl,_⟩
  ·exact⟨_,_,rfl⟩
  ·exact⟨_,_,rfl⟩
 ·exact⟨_,_,rfl⟩
theorem Acc.cells {w:World}{base e size n:Nat}{v:Value}{xs:List Value}(h:Acc w base e size v n xs) :
  n=0∨∃ g off c,v=.slice (some ⟨g,off,none⟩) n c∧g < w.heap.size∧∀ j u,xs[j]? = some u→w.cell? ⟨g,off+j,none⟩=some u:=by
 rcases h with h | ⟨_,g,off,rfl,hlt,hc⟩
 ·have hk:=h
  rcases h.2 with ⟨rfl,rfl⟩ | ⟨g,cap,cur,rfl,_,hh,_⟩
  ·exact .inl rfl
  ·refine .inr ⟨g,0,cap,rfl,?_,fun j u hu=>?_⟩
   ·rcases Nat.lt_or_ge g w.heap.size with hlt | hge
    ·exact hlt
    ·rw[Array.getElem?_eq_none hge] at hh;cases hh
   ·have hj:j < n*size:=by rw[←hk.1];exact(List.getElem?_eq_some_iff.1 hu).1
    rw[Nat.zero_add,hk.cellAt j hj]
    exact hu
 ·exact .inr ⟨g,off,n,rfl,hlt,hc⟩
theorem Acc.marked (w:World)(cs:Array Value)(base e size n:Nat)(f:Nat × Nat)(h:cs.size=n*size):Acc (w.alloc (.cells cs e f)) base e size (.slice (some ⟨w.heap.size,0,none⟩) n n) n cs.toList:=
 .inr ⟨by simpa using h,w.heap.size,0,rfl,by simp,fun j u hu=>by
  have:cs[j]? = some u:=by simpa using hu
  rw[Nat.zero_add,World.cell?_alloc_mark,this]⟩
def strs (l:List (List UInt8)):List Value:=l.map fun s=>.string ⟨s.toArray⟩
theorem Acc.strs_ {w:World}{base e n c:Nat}{A:Option Addr}{l:List (List UInt8)}(h:Acc w base e 1 (.slice A n c) n (strs l)):n=l.length∧Sl w w.heap.size 1 encS A l:=by
 have hl:l.length=n:=by simpa[strs] using h.length
 refine⟨hl.symm,?_⟩
 rcases h.cells with h0 | ⟨g,off,c',hv,hlt,hc⟩
 ·exact .inl (List.eq_nil_of_length_eq_zero (by omega))
 ·injection hv with h1 h2 h3
  subst h1
  refine .inr ⟨g,off,rfl,hlt,fun i hi j v hv=>?_⟩
  match j,hv with
  | 0,hv=>
    simp[encS] at hv
    subst hv
    have:=hc i (.string ⟨(l[i]).toArray⟩) (by simp[strs,hi])
    simpa using this
theorem Src.lit (w:World)(size e:Nat)(cs:Array Value)(m:Nat)(h:cs.size=m*size):Src (w.alloc (.cells cs e)) size (some ⟨w.heap.size,0,none⟩) m cs.toList:=
 ⟨by simpa using h,fun _=>⟨_,rfl,fun j u hu=>by
  rw[Addr.add_lit,Nat.zero_add]
  simp only[World.cell?,heap_alloc_new]
  have hj:=(List.getElem?_eq_some_iff.1 hu).1
  have:cs[j]? = some u:=by simpa using hu
  simpa using this⟩⟩
theorem World.grownBy_none_any {w w':World}{row:Option Nat}(h:w.grownBy w' none):w.grownBy w' row:=⟨h.os,h.tape,h.output,h.size,fun k hk _=>h.block k hk (by simp)⟩
section
variable {P:Program}(w:World)
theorem run_app (base t ty e size bytes:Nat)(hT:ElT P t e size bytes)(v:Value)(n:Nat)(xs:List Value)(hacc:Acc w base e size v n xs)
  (A:Option Addr)(m c:Nat)(news:List Value)(hsrc:Src w size A m news)(h1:∀ u∈news,u.oneCell'=true)
  (h63:n+m≤maxLen)(hbytes:(n+m)*bytes≤140737488355328)(hbase:base≤w.heap.size) :
  ∃ v' w',(Builtin.append_ #[t,t] ty #[v,.slice A m c]).run P w=.ok v' w'∧Acc w' base e size v' (n+m) (xs++news)∧w.grownBy w' v.ownBlock∧Below base w w'∧
    (v'=.slice none 0 0↔v=.slice none 0 0∧m=0)∧(v'.ownBlock=v.ownBlock∨∃ g,v'.ownBlock=some g∧w.heap.size≤g):=by
 obtain⟨ht,hsz,i,z,hi,hz,hs,hby,hzs⟩:=hT
 rcases Nat.eq_zero_or_pos m with rfl | hm
 ·have hn:news=[]:=List.eq_nil_of_length_eq_zero (by simpa using hsrc.1)
  subst hn
  have hrun:(Builtin.append_ #[t,t] ty #[v,.slice A 0 c]).run P w=.ok v w:=by
   rcases hacc with hown | ⟨_,g,off,rfl,_,_⟩
   ·rcases hown.2 with ⟨rfl,rfl⟩ | ⟨g,cap,cur,rfl,_,_,hnc,_⟩
    ·rcases A with _ | ad <;> simp[Builtin.append_,run_underlying ht,sizeOf,typeInfo,hi,Builtin.lenOf,Builtin.firstCells,loadCells,loadCellsFrom]
    ·rcases A with _ | ad <;> simp[Builtin.append_,run_underlying ht,sizeOf,typeInfo,hi,Builtin.lenOf,Builtin.firstCells,loadCells,loadCellsFrom,hnc,storeCells]
   ·rcases A with _ | ad <;> simp[Builtin.append_,run_underlying ht,sizeOf,typeInfo,hi,Builtin.lenOf,Builtin.firstCells,loadCells,loadCellsFrom,storeCells]
  exact⟨v,w,hrun,by simpa using hacc,World.grownBy.refl w _,Below.refl _ _,by simp,.inl rfl⟩
 ·obtain⟨ad,rfl,hc⟩:=hsrc.2 hm
  rcases hacc with hown | ⟨hl,g,off,rfl,hlt,hcs⟩
  ·obtain⟨v',w',hr,h2,h3,h4,h5⟩:=run_append_own_at (P:=P) w base t ty e i z size bytes ht hi hz hs hby hzs hsz v n xs hown ad m c news hsrc.1 hc h1 h63 hbytes hbase
   refine⟨v',w',hr,.inl h2,h3,(Below.refl _ _).grown h3 hbase (fun k hk=>(hown.lt k hk).1),h4,?_⟩
   rcases h5 with h5 | h5
   ·exact .inl h5
   ·exact .inr ⟨_,h5,Nat.le_refl _⟩
  ·obtain⟨v',w',hr,r1,r2⟩:=run_append_arg_grows (P:=P) w t ty e i z size bytes ht hi hz hs hby hzs hsz ⟨g,off,none⟩ n n xs hl (fun j u hj=>by rw[Addr.add_lit];exact hcs j u hj) ad m c news hsrc.1 hc (by omega) h63 hbytes
   refine⟨v',w',hr,.inl ⟨r1.1,?_⟩,World.grownBy_none_any r2,(Below.refl _ _).grown r2 hbase (by simp),?_,?_⟩
   ·rcases r1.2 with h | ⟨g',cap,cur,e1,e2,e3⟩
    ·exact .inl h
    ·exact .inr ⟨g',cap,cur,e1,Nat.le_trans hbase e2,e3⟩
   ·rcases r1.2 with ⟨_,h⟩ | ⟨g',cap,cur,rfl,_⟩
    ·omega
    ·simp
   ·rcases r1.2 with ⟨_,h⟩ | ⟨g',cap,cur,rfl,e2,_⟩
    ·omega
    ·exact .inr ⟨g',rfl,e2⟩
theorem wp_app {o:Oper}{a:Act}{K:Act→World→Prop}{Q:Exit→Act→World→Prop}(s x:Operand)(t:TypeId)
  (ho:o.op=.call {callee:=.builtin .append,args:=#[s,x],argTypes:=#[t,t]})
  (base e size bytes:Nat)(hT:ElT P t e size bytes)(v:Value)(n:Nat)(xs:List Value)(hs:a.eval s=v)(hacc:Acc w base e size v n xs)
  (A:Option Addr)(m c:Nat)(news:List Value)(hx:a.eval x=.slice A m c)(hsrc:Src w size A m news)(h1:∀ u∈news,u.oneCell'=true)
  (h63:n+m≤maxLen)(hbytes:(n+m)*bytes≤140737488355328)(hbase:base≤w.heap.size)
  (h:∀ v' w',Acc w' base e size v' (n+m) (xs++news)→w.grownBy w' v.ownBlock→Below base w w'→(v'=.slice none 0 0↔v=.slice none 0 0∧m=0)→
   (v'.ownBlock=v.ownBlock∨∃ g,v'.ownBlock=some g∧w.heap.size≤g)→K (a.put o.dst v') w'):o.wp P a w K Q:=by
 obtain⟨v',w',hrun,h2,h3,h4,h5,h6⟩:=run_app (P:=P) w base t o.type e size bytes hT v n xs hacc A m c news hsrc h1 h63 hbytes hbase
 unfold Oper.wp execOp
 simp only[ho,resolve,invoke,builtin,Sem.run_bind,Sem.run_pure,Result.andThen_ok,List.map_toArray,List.map_cons,List.map_nil,hs,hx,hrun]
 exact h v' w' h2 h3 h4 h5 h6
theorem zU1 {ops:Array Oper}{rest:List Oper}{o:Oper}{a:Act}{Q:Exit→Act→World→Prop}(hgd:o.guard=none)(s x:Operand)(t:TypeId)
  (ho:o.op=.call {callee:=.builtin .append,args:=#[s,x],argTypes:=#[t,t]})
  (base e size bytes:Nat)(hT:ElT P t e size bytes)(v:Value)(n:Nat)(xs:List Value)(hs:a.eval s=v)(hacc:Acc w base e size v n xs)
  (A:Option Addr)(m c:Nat)(news:List Value)(hx:a.eval x=.slice A m c)(hsrc:Src w size A m news)(h1:∀ u∈news,u.oneCell'=true)
  (h63:n+m≤maxLen)(hbytes:(n+m)*bytes≤140737488355328)(hbase:base≤w.heap.size)
  (h:∀ v' w',Acc w' base e size v' (n+m) (xs++news)→w.grownBy w' v.ownBlock→Below base w w'→(v'=.slice none 0 0↔v=.slice none 0 0∧m=0)→
   (v'.ownBlock=v.ownBlock∨∃ g,v'.ownBlock=some g∧w.heap.size≤g)→wpList P ops Q rest (a.put o.dst v') w'):wpList P ops Q (o ::rest) a w:=
 wpList_plain hgd fun _ hK=>wp_app w s x t ho base e size bytes hT v n xs hs hacc A m c news hx hsrc h1 h63 hbytes hbase fun v' w' h2 h3 h4 h5 h6=>hK _ _ (h v' w' h2 h3 h4 h5 h6)
end
open Go (Op.bytesLess)
def scmp (a b:List UInt8):Int:=if Op.bytesLess a b=true then -1 else if a=b then 0 else 1
theorem zH7 {α:Type}{enc:α→List Value}{k:Nat}(hk:∀ x,(enc x).length=k):∀ (l:List α)(i:Nat)(hi:i < l.length)(j:Nat),j < k→(l.flatMap enc)[i*k+j]? = (enc l[i])[j]?
 | [],i,hi,_,_=>by simp at hi
 | x ::l,0,_,j,hj=>by
   simp only[List.flatMap_cons,Nat.zero_mul,Nat.zero_add]
   rw[List.getElem?_append_left (by rw[hk];exact hj)]
   rfl
 | x ::l,i+1,hi,j,hj=>by
   simp only[List.flatMap_cons]
   have e:(i+1)*k+j=(enc x).length+(i*k+j):=by rw[hk,Nat.succ_mul];omega
   rw[e,List.getElem?_append_right (by omega),Nat.add_sub_cancel_left,zH7 hk l i (by simpa using hi) j hj]
   rfl
theorem zL0 {α:Type}{enc:α→List Value}{k:Nat}(hk:∀ x,(enc x).length=k)(l:List α):(l.flatMap enc).length=l.length*k:=by
 induction l with
 | nil=>simp
 | cons x l ih=>simp only[List.flatMap_cons,List.length_append,List.length_cons,hk,ih,Nat.succ_mul];omega
theorem yZ4 {n m k:Nat}(h:n < m*k):n / k < m∧n % k < k∧n=(n / k)*k+n % k:=by
 have hk:0 < k:=by
  rcases Nat.eq_zero_or_pos k with h0 | h0
  ·subst h0;simp at h
  ·exact h0
 refine⟨Nat.div_lt_of_lt_mul (by rw[Nat.mul_comm];exact h),Nat.mod_lt _ hk,?_⟩
 rw[Nat.mul_comm];exact(Nat.div_add_mod n k).symm
section
variable {α:Type}{w:World}{B k base e n c:Nat}{enc:α→List Value}{A:Option Addr}{l:List α}
theorem Sl.src (h:Sl w B k enc A l)(hk:∀ x,(enc x).length=k):Src w k A l.length (l.flatMap enc):=by
 refine⟨zL0 hk l,fun hpos=>?_⟩
 rcases h with rfl | ⟨b,off,rfl,_,hc⟩
 ·simp at hpos
 ·refine⟨_,rfl,fun j u hu=>?_⟩
  have hj:j < l.length*k:=by rw[←zL0 hk l];exact(List.getElem?_eq_some_iff.1 hu).1
  obtain⟨h1,h2,h3⟩:=yZ4 hj
  rw[Addr.add_lit]
  rw[h3,zH7 hk l _ h1 _ h2] at hu
  have:=hc _ h1 _ _ hu
  rw[Nat.add_assoc,←h3] at this
  exact this
theorem Acc.sl (h:Acc w base e k (.slice A n c) n (l.flatMap enc))(hk:∀ x,(enc x).length=k)(h0:0 < k):n=l.length∧Sl w w.heap.size k enc A l:=by
 have hl:l.length=n:=by
  have:=h.length
  rw[zL0 hk] at this
  exact Nat.eq_of_mul_eq_mul_right h0 this
 refine⟨hl.symm,?_⟩
 rcases h.cells with h0' | ⟨g,off,c',hv,hlt,hc⟩
 ·exact .inl (List.eq_nil_of_length_eq_zero (by omega))
 ·injection hv with h1 h2 h3
  subst h1
  refine .inr ⟨g,off,rfl,hlt,fun i hi j v hv=>?_⟩
  have hj:j < k:=by rw[←hk l[i]];exact(List.getElem?_eq_some_iff.1 hv).1
  have:=hc (i*k+j) v (by rw[zH7 hk l i hi j hj];exact hv)
  rw[Nat.add_assoc]
  exact this
end
def Blk (w:World)(g:Nat)(t:TypeId)(cs:Array Value):Prop:=w.heap[g]? = some (.cells cs t (0,0))
section
variable {w w':World}{g:Nat}{t:TypeId}{cs:Array Value}
theorem Blk.lt (h:Blk w g t cs):g < w.heap.size:=by
 rcases Nat.lt_or_ge g w.heap.size with hlt | hge
 ·exact hlt
 ·unfold Blk at h;rw[Array.getElem?_eq_none hge] at h;cases h
theorem Blk.cell (h:Blk w g t cs)(i:Nat):w.cell? ⟨g,i,none⟩=cs[i]?:=cell_of_row w g i cs t (0,0) h
theorem Blk.free (h:Blk w g t cs)(i:Nat):w.frozen? ⟨g,i,none⟩=false:=by
 unfold Blk at h
 simp[World.frozen?,h]
theorem Blk.keep (h:Blk w g t cs)(hb:Below w.heap.size w w'):Blk w' g t cs:=(hb.block g h.lt).trans h
theorem Blk.new (w:World)(t:TypeId)(cs:Array Value):Blk (w.alloc (.cells cs t)) w.heap.size t cs:=heap_alloc_new w _
theorem Blk.set_ (h:Blk w g t cs)(i:Nat)(u:Value):Blk (w.setCell ⟨g,i,none⟩ u) g t (cs.setIfInBounds i u):=by
 unfold Blk at h ⊢
 simp[World.setCell,Array.getElem?_modify,h]
theorem Blk.far (h:Blk w g t cs){p:Addr}(hp:g≠p.block)(u:Value):Blk (w.setCell p u) g t cs:=(Below.heap_setCell w p u g hp).trans h
theorem Blk.grown {row:Option Nat}(h:Blk w g t cs)(hg:w.grownBy w' row)(hne:some g≠row):Blk w' g t cs:=(hg.block g h.lt hne).trans h
theorem Blk.alloc (h:Blk w g t cs)(o:Obj):Blk (w.alloc o) g t cs:=h.keep ((Below.refl _ _).alloc (Nat.le_refl _) _)
theorem Blk.inj {t':TypeId}{cs':Array Value}(h:Blk w g t cs)(h':Blk w g t' cs'):t=t'∧cs=cs':=by
 unfold Blk at h h'
 rw[h] at h'
 injection h' with h'
 injection h' with h1 h2
 exact⟨h2,h1⟩
end
structure Kp (M:Nat→Prop)(w w':World):Prop where
 os:w'.os=w.os
 tape:w'.tape=w.tape
 output:w'.output=w.output
 size:w.heap.size≤w'.heap.size
 block:∀ k,k < w.heap.size→¬ M k→w'.heap[k]? = w.heap[k]?
section
variable {M M':Nat→Prop}{a w w':World}
theorem Kp.refl (M:Nat→Prop)(w:World):Kp M w w:=⟨rfl,rfl,rfl,Nat.le_refl _,fun _ _ _=>rfl⟩
theorem Kp.trans (h:Kp M a w)(k:Kp M w w'):Kp M a w':=
 ⟨k.os.trans h.os,k.tape.trans h.tape,k.output.trans h.output,Nat.le_trans h.size k.size,fun i hi hM=>(k.block i (Nat.lt_of_lt_of_le hi h.size) hM).trans (h.block i hi hM)⟩
theorem Kp.trans2 (h:Kp M a w)(k:Kp M' w w')(hM:∀ i,i < a.heap.size→M' i→M i):Kp M a w':=
 ⟨k.os.trans h.os,k.tape.trans h.tape,k.output.trans h.output,Nat.le_trans h.size k.size,fun i hi hn=>(k.block i (Nat.lt_of_lt_of_le hi h.size) fun hc=>hn (hM i hi hc)).trans (h.block i hi hn)⟩
theorem Kp.mono (h:Kp M w w')(hM:∀ i,M i→M' i):Kp M' w w':=⟨h.os,h.tape,h.output,h.size,fun i hi hn=>h.block i hi fun hc=>hn (hM i hc)⟩
theorem Kp.alloc (h:Kp M a w)(o:Obj):Kp M a (w.alloc o):=h.trans ⟨rfl,rfl,rfl,by simp,fun k hk _=>Below.heap_alloc _ _ _ hk⟩
theorem Kp.drewN (h:Kp M a w)(n:Nat):Kp M a (w.drewN n):=⟨h.os,h.tape,h.output,h.size,h.block⟩
theorem Kp.drew (h:Kp M a w):Kp M a w.drew:=⟨h.os,h.tape,h.output,h.size,h.block⟩
theorem Kp.setCell (h:Kp M a w){p:Addr}(hp:M p.block)(u:Value):Kp M a (w.setCell p u):=
 h.trans ⟨rfl,rfl,rfl,by simp[World.setCell],fun k _ hn=>Below.heap_setCell _ _ _ _ (fun e=>hn (e▸hp))⟩
theorem Kp.setNew (h:Kp M a w){p:Addr}(hp:a.heap.size≤p.block)(u:Value):Kp M a (w.setCell p u):=
 ⟨h.os,h.tape,h.output,by simpa[World.setCell] using h.size,fun k hk hn=>(Below.heap_setCell _ _ _ _ (by omega)).trans (h.block k hk hn)⟩
theorem Kp.grown {row:Option Nat}(h:Kp M a w)(hg:w.grownBy w' row)(hr:∀ k,row=some k→M k∨a.heap.size≤k):Kp M a w':=
 ⟨hg.os.trans h.os,hg.tape.trans h.tape,hg.output.trans h.output,Nat.le_trans h.size hg.size,fun k hk hn=>
  (hg.block k (Nat.lt_of_lt_of_le hk h.size) fun e=>by rcases hr k e.symm with h1 | h1;exact hn h1;omega).trans (h.block k hk hn)⟩
theorem Kp.ofBelow (h:Below w.heap.size w w')(M:Nat→Prop):Kp M w w':=⟨h.os,h.tape,h.output,h.size,fun k hk _=>h.block k hk⟩
theorem Kp.below (h:Kp M a w)(k:Below w.heap.size w w'):Kp M a w':=h.trans (Kp.ofBelow k M)
theorem Kp.toBelow {B:Nat}(h:Kp M w w')(hB:B≤w.heap.size)(hM:∀ i,i < B→¬ M i):Below B w w':=⟨h.os,h.tape,h.output,h.size,fun k hk=>h.block k (by omega) (hM k hk)⟩
theorem Kp.cell (h:Kp M w w'){p:Addr}(hp:p.block < w.heap.size)(hn:¬ M p.block):w'.cell? p=w.cell? p:=World.cell?_of_block (w:=w) (h.block p.block hp hn)
theorem Kp.frozen (h:Kp M w w'){p:Addr}(hp:p.block < w.heap.size)(hn:¬ M p.block):w'.frozen? p=w.frozen? p:=World.frozen?_of_block (w:=w) (h.block p.block hp hn)
theorem Kp.blk {g:Nat}{t:TypeId}{cs:Array Value}(h:Kp M w w')(hb:Blk w g t cs)(hn:¬ M g):Blk w' g t cs:=(h.block g hb.lt hn).trans hb
theorem Kp.sl {α:Type}{B k:Nat}{enc:α→List Value}{A:Option Addr}{l:List α}(h:Kp M w w')(hs:Sl w B k enc A l)(hB:B≤w.heap.size)(hn:∀ b,A.map (·.block)=some b→¬ M b):Sl w' B k enc A l:=by
 rcases hs with hs | ⟨b,off,rfl,hb,hc⟩
 ·exact .inl hs
 ·exact .inr ⟨b,off,rfl,hb,fun i hi j v hv=>(h.cell (p:=⟨b,_,none⟩) (by show b < _;omega) (hn b rfl)).trans (hc i hi j v hv)⟩
end
def RetIx (q:Prop)(w:World)(e:Ending)(w':World):Prop:=∃ i:Int,(0≤i↔q)∧e=.returned (.int .i64 i)∧w=w'
set_option maxHeartbeats 1000000 in
theorem yF2 (A:Option Addr)(c:Nat)(l:List Tx)(s:Tx)(w:World)(hA:Sl w w.heap.size 1 encS A l)(hl:l.length≤1099511627776) :
  Calls Tryz.prog 166 #[.slice A l.length c,.string ⟨s.toArray⟩] w (RetIx (s∈l) w):=by
 have HA:=Lib.hid hA
 clear hA
 go_enter Tryz.func166,Tryz.ntmps166
 go_wp2
 go_loop [8] (fun i=>∃ k:Nat,k≤l.length∧i=.int .i64 (k:Nat)∧Hid (s∉l.take k)) (fun i=>l.length-(intOf i).toNat)
 case atStart=>exact⟨0,Nat.zero_le _,rfl,Lib.hid (by simp)⟩
 case round=>
  obtain⟨k,hk,rfl,HN⟩:=hrel
  by_cases hlt:k < l.length
  ·have hlt':(k:Int) < (l.length:Int):=by omega
   obtain⟨b,off,rfl,hb,hc⟩:=HA.out.at_ hlt
   have g0:=hc 0 _ rfl
   simp only[Nat.mul_one,Nat.add_zero] at g0
   have HM:=Lib.hid (List.getElem_mem hlt)
   have HT:=Lib.hid (List.take_succ_eq_append_getElem hlt)
   clear hc
   generalize l[k]=x at g0 HM HT
   by_cases hx:s=x
   ·have hx1:(s == x)=true:=by rw[hx];exact beq_self_eq_true _
    have HX:=Lib.hid hx
    clear hx
    go_wp2
    go_ret
    exact⟨k,⟨fun _=>by rw[HX.out];exact HM.out,fun _=>by omega⟩,rfl,rfl⟩
   ·have hx1:(s == x)=false:=beq_eq_false_iff_ne.2 hx
    have HX:=Lib.hid hx
    clear hx
    go_wp2
    go_round
    case rel=>exact⟨k+1,by omega,by go_num,Lib.hid (by
     rw[HT.out]
     intro h
     rcases List.mem_append.1 h with h | h
     ·exact HN.out h
     ·exact HX.out (List.mem_singleton.1 h))⟩
    case measure=>simp[intOf];omega
  ·obtain rfl:k=l.length:=by omega
   go_wp2
   go_ret
   exact⟨-1,⟨fun h=>by omega,fun h=>absurd (by rw[List.take_length];exact h) HN.out⟩,rfl,rfl⟩
theorem zD1 (A:Option Addr)(c:Nat)(l:List Tx)(s:Tx)(w:World)(hA:Sl w w.heap.size 1 encS A l)(hl:l.length≤1099511627776) :
  Calls Tryz.prog 135 #[.slice A l.length c,.string ⟨s.toArray⟩] w fun e w'=>e=.returned (.bool (decide (s∈l)))∧w=w':=by
 have cI:=yF2 A c l s w hA hl
 clear hA
 go_enter Tryz.func135,Tryz.ntmps135
 go_wp2_with fail
 refine cI.mono ?_
 rintro e w1 ⟨i,hi,rfl,rfl⟩
 have HI:=Lib.hid hi
 clear hi cI
 go_wp2
 go_ret
 exact⟨zO6 (by rw[decide_eq_decide];exact HI.out),rfl⟩
def yW2 (b:Bool):List Value:=[.bool b]
set_option maxHeartbeats 1000000 in
theorem yF3 (A:Option Addr)(c:Nat)(l:List Bool)(s:Bool)(w:World)(hA:Sl w w.heap.size 1 yW2 A l)(hl:l.length≤1099511627776) :
  Calls Tryz.prog 165 #[.slice A l.length c,.bool s] w (RetIx (s∈l) w):=by
 have HA:=Lib.hid hA
 clear hA
 go_enter Tryz.func165,Tryz.ntmps165
 go_wp2
 go_loop [8] (fun i=>∃ k:Nat,k≤l.length∧i=.int .i64 (k:Nat)∧Hid (s∉l.take k)) (fun i=>l.length-(intOf i).toNat)
 case atStart=>exact⟨0,Nat.zero_le _,rfl,Lib.hid (by simp)⟩
 case round=>
  obtain⟨k,hk,rfl,HN⟩:=hrel
  by_cases hlt:k < l.length
  ·have hlt':(k:Int) < (l.length:Int):=by omega
   obtain⟨b,off,rfl,hb,hc⟩:=HA.out.at_ hlt
   have g0:=hc 0 _ rfl
   simp only[Nat.mul_one,Nat.add_zero] at g0
   have HM:=Lib.hid (List.getElem_mem hlt)
   have HT:=Lib.hid (List.take_succ_eq_append_getElem hlt)
   clear hc
   generalize l[k]=x at g0 HM HT
   by_cases hx:s=x
   ·have hx1:(s == x)=true:=by rw[hx];exact beq_self_eq_true _
    have HX:=Lib.hid hx
    clear hx
    go_wp2
    go_ret
    exact⟨k,⟨fun _=>by rw[HX.out];exact HM.out,fun _=>by omega⟩,rfl,rfl⟩
   ·have hx1:(s == x)=false:=beq_eq_false_iff_ne.2 hx
    have HX:=Lib.hid hx
    clear hx
    go_wp2
    go_round
    case rel=>exact⟨k+1,by omega,by go_num,Lib.hid (by
     rw[HT.out]
     intro h
     rcases List.mem_append.1 h with h | h
     ·exact HN.out h
     ·exact HX.out (List.mem_singleton.1 h))⟩
    case measure=>simp[intOf];omega
  ·obtain rfl:k=l.length:=by omega
   go_wp2
   go_ret
   exact⟨-1,⟨fun h=>by omega,fun h=>absurd (by rw[List.take_length];exact h) HN.out⟩,rfl,rfl⟩
theorem yB5 (A:Option Addr)(c:Nat)(l:List Bool)(s:Bool)(w:World)(hA:Sl w w.heap.size 1 yW2 A l)(hl:l.length≤1099511627776) :
  Calls Tryz.prog 134 #[.slice A l.length c,.bool s] w fun e w'=>e=.returned (.bool (decide (s∈l)))∧w=w':=by
 have cI:=yF3 A c l s w hA hl
 clear hA
 go_enter Tryz.func134,Tryz.ntmps134
 go_wp2_with fail
 refine cI.mono ?_
 rintro e w1 ⟨i,hi,rfl,rfl⟩
 have HI:=Lib.hid hi
 clear hi cI
 go_wp2
 go_ret
 exact⟨zO6 (by rw[decide_eq_decide];exact HI.out),rfl⟩
theorem yM2 (c:UInt8):zV8 c=((decide ((97:Int)≤c.toNat)&&decide ((c.toNat:Int)≤122))||(decide ((65:Int)≤c.toNat)&&decide ((c.toNat:Int)≤90))):=by
 unfold zV8
 simp only[UInt8.le_iff_toNat_le]
 rw[Bool.eq_iff_iff]
 simp
 omega
theorem zR9 (c:UInt8)(w:World):Calls Tryz.prog 136 #[.int .u8 (c.toNat:Nat)] w fun e w'=>e=.returned (.bool (zV8 c))∧w=w':=by
 have HL:=Lib.hid (yM2 c)
 go_enter Tryz.func136,Tryz.ntmps136
 go_wp2
 all_goals
  go_ret
  exact⟨zO6 (by rw[HL.out];simp[*];try omega),rfl⟩
end Go.Proofs.YtdgehhgjgifikaaGreatDoor
