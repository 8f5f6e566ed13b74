/- What the claim needs of:RA RB RC RD. -/
import Derived.Test.YtdgehhgjgifikaaGreatDoorK1
import Derived.Test.YtdgehhgjgifikaaGreatDoorK4
import Derived.Test.YtdgehhgjgifikaaGreatDoorK20
import Derived.Test.YtdgehhgjgifikaaGreatDoorK2
import Derived.Test.YtdgehhgjgifikaaGreatDoorK3
import Derived.Recover
import Derived.Lib.Bytealg
import Derived.LoopN
namespace Go.Proofs.YtdgehhgjgifikaaGreatDoor
def digP (c:UInt8):Option Nat:=if 48≤c∧c≤57 then some (c.toNat-48) else if 97≤c∧c≤102 then some (c.toNat-87) else if 65≤c∧c≤70 then some (c.toNat-55) else none
def hexP (zX0:Nat):List UInt8→Option (Nat × List UInt8)
 | a ::b ::t=>match digP a,digP b with
   | some x,some y=>if x*16+y < zX0 then none else some (x*16+y,t)
   | _,_=>none
 | _=>none
def spcA:List UInt8:=[40,41,91,93,123,125,124,42,43,63,46,92]
def spcE:List UInt8:=[40,41,91,93,123,125,124,42,43,63,46,92,45,94]
def spcI:List UInt8:=[40,41,91,93,123,125,124,42,43,63,46,94,45]
def escV (c:UInt8):Option Nat:=if c=110 then some 10 else if c=116 then some 9 else if c=114 then some 13 else if c∈spcE then some c.toNat else none
def escP (zX0:Nat):List UInt8→Option (Nat × List UInt8)
 | []=>none
 | c ::t=>if c=120 then hexP zX0 t else match escV c with
   | none=>none
   | some v=>if v < zX0 then none else some (v,t)
def yZ7 (zX0:Nat):List UInt8→Option (Nat × List UInt8)
 | []=>none
 | c ::t=>if c=92 then escP zX0 t else if c < 32∨126 < c∨c.toNat < zX0∨c∈spcI then none else some (c.toNat,t)
def zL7 (r:List UInt8):Option (List UInt8):=match yZ7 0 r with
 | none=>none
 | some (lo,t)=>if t.head? = some 45 then(yZ7 lo t.tail).map (·.2) else some t
inductive SetL:List UInt8→Option (List UInt8)→Prop
 | fail {r}:zL7 r=none→SetL r none
 | stop {r t}:zL7 r=some (93 ::t)→SetL r (some t)
 | go {r t o}:zL7 r=some t→t.head?≠some 93→SetL t o→SetL r o
theorem SetL.det {r:List UInt8}{o:Option (List UInt8)}(h:SetL r o):∀ {o'},SetL r o'→o=o':=by
 induction h with
 | fail h1=>
   intro o' h';cases h' with
   | fail _=>rfl
   | stop h2=>rw[h1] at h2;cases h2
   | go h2 _ _=>rw[h1] at h2;cases h2
 | stop h1=>
   intro o' h';cases h' with
   | fail h2=>rw[h1] at h2;cases h2
   | stop h2=>rw[h1] at h2;injection h2 with h2;injection h2 with _ h2;rw[h2]
   | go h2 h3 _=>rw[h1] at h2;injection h2 with h2;subst h2;simp at h3
 | go h1 h2 _ ih=>
   intro o' h';cases h' with
   | fail h3=>rw[h1] at h3;cases h3
   | stop h3=>rw[h1] at h3;injection h3 with h3;subst h3;simp at h2
   | go h3 _ h5=>rw[h1] at h3;injection h3 with h3;subst h3;exact ih h5
inductive SetP:List UInt8→Option (List UInt8)→Prop
 | neg {t o}:SetL t o→SetP (94 ::t) o
 | nil {t}:SetP (93 ::t) (some t)
 | pos {t o}:t.head?≠some 94→t.head?≠some 93→SetL t o→SetP t o
theorem SetP.det {r:List UInt8}{o o':Option (List UInt8)}(h:SetP r o)(h':SetP r o'):o=o':=by
 cases h with
 | neg h1=>
   cases h' with
   | neg h2=>exact h1.det h2
   | pos h2 _ _=>simp at h2
 | nil=>
   cases h' with
   | nil=>rfl
   | pos _ h2 _=>simp at h2
 | pos h1 h2 h3=>
   cases h' with
   | neg h4=>simp at h1
   | nil=>simp at h2
   | pos _ _ h4=>exact h3.det h4
def clsP (c:UInt8):Bool:=c == 100||c == 119||c == 115
def yI6:List UInt8→Option (List UInt8)
 | []=>none
 | c ::t=>if c=46 then some t else if c=92 then(if (t.head?.map clsP)=some true then some t.tail else(escP 0 t).map (·.2)) else if c < 32∨126 < c∨c∈spcA then none else some t
def zD4 (h:Nat):List UInt8→Nat × List UInt8
 | c ::t=>if c=42 then zD4 (h+1) t else if c=43 then zD4 (h+2) t else if c=63 then zD4 (h+1) t else(h,c ::t)
 | []=>(h,[])
def maxH (hs:List Nat):Nat:=hs.foldr max 0
def joinH (hs:List Nat):Nat:=if hs.length=1 then maxH hs else maxH hs+1
inductive Pr:Nat→List Nat→List UInt8→Option (Nat × List UInt8)→Prop
 | alt0n {r}:Pr 2 [] r none→Pr 0 [] r none
 | alt0 {r h t o}:Pr 2 [] r (some (h,t))→Pr 1 [h] t o→Pr 0 [] r o
 | altS {hs t}:t.head?≠some 124→Pr 1 hs t (some (joinH hs,t))
 | altN {hs t}:Pr 2 [] t none→Pr 1 hs (124 ::t) none
 | altL {hs t h u o}:Pr 2 [] t (some (h,u))→Pr 1 (hs++ [h]) u o→Pr 1 hs (124 ::t) o
 | cat0n {r}:Pr 4 [] r none→Pr 2 [] r none
 | cat0 {r h t o}:Pr 4 [] r (some (h,t))→Pr 3 [h] t o→Pr 2 [] r o
 | catS {hs t}:(t=[]∨t.head? = some 124∨t.head? = some 41)→Pr 3 hs t (some (joinH hs,t))
 | catN {hs t}:t≠[]→t.head?≠some 124→t.head?≠some 41→Pr 4 [] t none→Pr 3 hs t none
 | catL {hs t h u o}:t≠[]→t.head?≠some 124→t.head?≠some 41→Pr 4 [] t (some (h,u))→Pr 3 (hs++ [h]) u o→Pr 3 hs t o
 | pcN {r}:Pr 5 [] r none→Pr 4 [] r none
 | pc {r h t}:Pr 5 [] r (some (h,t))→Pr 4 [] r (some (zD4 h t))
 | one {r}:r.head?≠some 40→r.head?≠some 91→Pr 5 [] r ((yI6 r).map fun t=>(1,t))
 | set {t o}:SetP t o→Pr 5 [] (91 ::t) (o.map fun t=>(1,t))
 | emp {t}:Pr 5 [] (40 ::41 ::t) (some (1,t))
 | grpN {t}:t.head?≠some 41→Pr 0 [] t none→Pr 5 [] (40 ::t) none
 | grpU {t h u}:t.head?≠some 41→Pr 0 [] t (some (h,u))→u.head?≠some 41→Pr 5 [] (40 ::t) none
 | grp {t h u}:t.head?≠some 41→Pr 0 [] t (some (h,41 ::u))→Pr 5 [] (40 ::t) (some (h,u))
theorem Pr.det {k:Nat}{hs:List Nat}{r:List UInt8}{o:Option (Nat × List UInt8)}(h:Pr k hs r o):∀ {o'},Pr k hs r o'→o=o':=by
 induction h with
 | alt0n _ ih=>
   intro o' h';cases h' with
   | alt0n _=>rfl
   | alt0 h1 _=>cases ih h1
 | alt0 _ _ ih1 ih2=>
   intro o' h';cases h' with
   | alt0n h1=>cases ih1 h1
   | alt0 h1 h2=>
     cases ih1 h1;exact ih2 h2
 | altS h1=>
   intro o' h';cases h' with
   | altS _=>rfl
   | altN _=>simp at h1
   | altL _ _=>simp at h1
 | altN _ ih=>
   intro o' h';cases h' with
   | altS h1=>simp at h1
   | altN _=>rfl
   | altL h1 _=>cases ih h1
 | altL _ _ ih1 ih2=>
   intro o' h';cases h' with
   | altS h1=>simp at h1
   | altN h1=>cases ih1 h1
   | altL h1 h2=>
     cases ih1 h1;exact ih2 h2
 | cat0n _ ih=>
   intro o' h';cases h' with
   | cat0n _=>rfl
   | cat0 h1 _=>cases ih h1
 | cat0 _ _ ih1 ih2=>
   intro o' h';cases h' with
   | cat0n h1=>cases ih1 h1
   | cat0 h1 h2=>
     cases ih1 h1;exact ih2 h2
 | catS h1=>
   intro o' h';cases h' with
   | catS _=>rfl
   | catN h2 h3 h4 _=>rcases h1 with h1 | h1 | h1 <;> contradiction
   | catL h2 h3 h4 _ _=>rcases h1 with h1 | h1 | h1 <;> contradiction
 | catN h2 h3 h4 _ ih=>
   intro o' h';cases h' with
   | catS h1=>rcases h1 with h1 | h1 | h1 <;> contradiction
   | catN _ _ _ _=>rfl
   | catL _ _ _ h1 _=>cases ih h1
 | catL h2 h3 h4 _ _ ih1 ih2=>
   intro o' h';cases h' with
   | catS h1=>rcases h1 with h1 | h1 | h1 <;> contradiction
   | catN _ _ _ h1=>cases ih1 h1
   | catL _ _ _ h1 h5=>
     cases ih1 h1;exact ih2 h5
 | pcN _ ih=>
   intro o' h';cases h' with
   | pcN _=>rfl
   | pc h1=>cases ih h1
 | pc _ ih=>
   intro o' h';cases h' with
   | pcN h1=>cases ih h1
   | pc h1=>
     cases ih h1;rfl
 | one h1 h2=>
   intro o' h';cases h' with
   | one _ _=>rfl
   | set _=>simp at h2
   | emp=>simp at h1
   | grpN _ _=>simp at h1
   | grpU _ _ _=>simp at h1
   | grp _ _=>simp at h1
 | set h1=>
   intro o' h';cases h' with
   | one _ h2=>simp at h2
   | set h2=>rw[h1.det h2]
 | emp=>
   intro o' h';cases h' with
   | one h1 _=>simp at h1
   | emp=>rfl
   | grpN h1 _=>simp at h1
   | grpU h1 _ _=>simp at h1
   | grp h1 _=>simp at h1
 | grpN h1 _ ih=>
   intro o' h';cases h' with
   | one h2 _=>simp at h2
   | emp=>simp at h1
   | grpN _ _=>rfl
   | grpU _ h2 _=>cases ih h2
   | grp _ h2=>cases ih h2
 | grpU h1 _ h3 ih=>
   intro o' h';cases h' with
   | one h2 _=>simp at h2
   | emp=>simp at h1
   | grpN _ h2=>rfl
   | grpU _ _ _=>rfl
   | grp _ h2=>
     cases ih h2;simp at h3
 | grp h1 _ ih=>
   intro o' h';cases h' with
   | one h2 _=>simp at h2
   | emp=>simp at h1
   | grpN _ h2=>cases ih h2
   | grpU _ h2 h3=>
     cases ih h2;simp at h3
   | grp _ h2=>
     cases ih h2;rfl
def rxE (s:List UInt8)(er:Int):Prop:=if 1000 < s.length then er=2 else ∃ o,Pr 0 [] s o∧er=match o with
 | some (h,[])=>if 16 < h then 9 else 0
 | _=>8
theorem rxE_det {s:List UInt8}{a b:Int}(ha:rxE s a)(hb:rxE s b):a=b:=by
 unfold rxE at ha hb;split at ha
 ·rename_i h;rw[if_pos h] at hb;rw[ha,hb]
 ·rename_i h;rw[if_neg h] at hb;obtain⟨o,h1,rfl⟩:=ha;obtain⟨o',h2,rfl⟩:=hb;rw[h1.det h2]
open Classical in
noncomputable def rxP (s:List UInt8):Bool:=decide (rxE s 0)
theorem rxP_of {s:List UInt8}{er:Int}(h:rxE s er):(er == 0)=rxP s:=by
 unfold rxP;by_cases h0:er=0
 ·subst h0;simp[h]
 ·have hn:¬ rxE s 0:=fun h2=>h0 (rxE_det h h2);simp[h0,hn]
open Go.RowKit
def PB (w:World)(b:Nat)(s:Tx)(i:Nat):Prop:=Blk w b 250 #[.string ⟨s.toArray⟩,.int .i64 (i:Nat)]
def zU0 (s:Tx)(i:Nat):UInt8:=(s[i]?).getD 0
set_option maxHeartbeats 1000000 in
theorem zU1 (b:Nat)(s:Tx)(i:Nat)(w:World)(hB:PB w b s i)(_hs:s.length≤1000)(hi:i≤s.length) :
  Calls Tryz.prog 199 #[.pointer (some ⟨b,0,none⟩)] w fun e w'=>e=.returned (.int .u8 (zU0 s i).toNat)∧Below w.heap.size w w':=by
 have x0:=hB.cell 0;have x1:=hB.cell 1;clear hB;by_cases hlt:i < s.length
 ·have hlt':(i:Int) < (s.length:Int):=by omega
  have hn:zU0 s i=s[i]:=by unfold zU0;rw[List.getElem?_eq_getElem hlt];rfl
  go_enter Tryz.func199,Tryz.ntmps199
  go_wp2;go_quiet (fail)
  go_wp2;go_quiet (fail)
  go_wp2;go_ret;exact⟨by rw[hn];rfl,(qH.drewN _).drewN _⟩
 ·have hlt':¬ (i:Int) < (s.length:Int):=by omega
  have hn:zU0 s i=0:=by unfold zU0;rw[List.getElem?_eq_none qG];rfl
  go_enter Tryz.func199,Tryz.ntmps199
  go_wp2;go_quiet (fail)
  go_wp2;go_ret;exact⟨by rw[hn];rfl,qH.drewN _⟩
def flt (i:Int):Ending:=.panicked [{v:=.iface 252 (.agg #[.int .i64 i]),recovered:=false}]
set_option maxHeartbeats 1000000 in
theorem zX1 (b:Nat)(i:Int)(w:World) :
  Calls Tryz.prog 184 #[.pointer (some ⟨b,0,none⟩),.int .i64 i] w fun e w'=>e=flt i∧w'=w:=by
 go_enter Tryz.func184,Tryz.ntmps184
 go_wp2;exact⟨rfl,rfl,rfl⟩
def RetS (w:World)(e:Ending)(w':World):Prop:=∃ a b c d:Int,e=.returned (.agg #[.int .u64 a,.int .u64 b,.int .u64 c,.int .u64 d])∧Below w.heap.size w w'
theorem setC {w:World}{g:Nat}{ty:TypeId}{v0 v1 v2 v3:Value}(h:Blk w g ty #[v0,v1,v2,v3]):w.cell? ⟨g,0,none⟩=some v0∧w.cell? ⟨g,1,none⟩=some v1∧w.cell? ⟨g,2,none⟩=some v2∧w.cell? ⟨g,3,none⟩=some v3:=⟨h.cell 0,h.cell 1,h.cell 2,h.cell 3⟩
theorem setF {w:World}{g:Nat}{ty:TypeId}{cs:Array Value}(h:Blk w g ty cs):w.frozen? ⟨g,0,none⟩=false∧w.frozen? ⟨g,1,none⟩=false∧w.frozen? ⟨g,2,none⟩=false∧w.frozen? ⟨g,3,none⟩=false:=⟨h.free 0,h.free 1,h.free 2,h.free 3⟩
theorem res4 {w:World}{g:Nat}{ty:TypeId}{z0 z1 z2 z3:Value}(h:Blk w g ty #[z0,z1,z2,z3])(v0 v1 v2 v3:Value):Blk ((((w.setCell ⟨g,0,none⟩ v0).setCell ⟨g,1,none⟩ v1).setCell ⟨g,2,none⟩ v2).setCell ⟨g,3,none⟩ v3) g ty #[v0,v1,v2,v3]∧Kp (· = g) w ((((w.setCell ⟨g,0,none⟩ v0).setCell ⟨g,1,none⟩ v1).setCell ⟨g,2,none⟩ v2).setCell ⟨g,3,none⟩ v3):=
 ⟨by simpa using(((h.set_ 0 v0).set_ 1 v1).set_ 2 v2).set_ 3 v3,((((Kp.refl (· = g) w).setCell (p:=⟨g,0,none⟩) rfl v0).setCell (p:=⟨g,1,none⟩) rfl v1).setCell (p:=⟨g,2,none⟩) rfl v2).setCell (p:=⟨g,3,none⟩) rfl v3⟩
theorem xT5 {w:World}{g:Nat}{ty:TypeId}{a b c d:Int}(h:Blk w g ty #[.int .u64 a,.int .u64 b,.int .u64 c,.int .u64 d])(k:Nat)(hk:k < 4)(v:Int):Kp (· = g) w (w.setCell ⟨g,k,none⟩ (.int .u64 v))∧∃ a' b' c' d':Int,Blk (w.setCell ⟨g,k,none⟩ (.int .u64 v)) g ty #[.int .u64 a',.int .u64 b',.int .u64 c',.int .u64 d']:=by
 refine⟨(Kp.refl (· = g) w).setCell (p:=⟨g,k,none⟩) rfl _,?_⟩;have h2:=h.set_ k (.int .u64 v);match k,hk with
 | 0,_=>exact⟨v,b,c,d,by simpa using h2⟩
 | 1,_=>exact⟨a,v,c,d,by simpa using h2⟩
 | 2,_=>exact⟨a,b,v,d,by simpa using h2⟩
 | 3,_=>exact⟨a,b,c,v,by simpa using h2⟩
theorem zC0 {w:World}{g:Nat}{ty:TypeId}{a b c d:Int}(h:Blk w g ty #[.int .u64 a,.int .u64 b,.int .u64 c,.int .u64 d])(k:Nat)(hk:k < 4):(∃ x:Int,w.cell? ⟨g,k,none⟩=some (.int .u64 x))∧w.frozen? ⟨g,k,none⟩=false:=by
 refine⟨?_,h.free k⟩;have h2:=h.cell k;match k,hk with
 | 0,_=>exact⟨_,h2⟩
 | 1,_=>exact⟨_,h2⟩
 | 2,_=>exact⟨_,h2⟩
 | 3,_=>exact⟨_,h2⟩
set_option maxRecDepth 100000 in
theorem zT1 {o:Oper}{P:Program}{Q:Exit→Act→World→Prop}{K:Act→World→Prop}{W:World}{fs:List Fact}{G:Act→Prop}{aa ab ac ad ae af ag ah ai aj ak al am an ao ap aq ar au av aw ax ay az aA aB aC aD aE aF aG aH aI aJ aK aL aM aN aO aP:Value}(hG:∀ A,o.wp P A W K Q→G A)(h:o.wp P (Act.mk #[aa,ab,ac,ad,ae,af,ag,ah,ai,aj,ak,al,am,an,ao,ap,aq,ar,au,av,aH,aI,aJ,aK,aL,aM,aN,aO,aP,aF,aG] []) W K Q):zY0 W G [] fs (Act.put (Act.put (Act.put (Act.put (Act.put (Act.put (Act.put (Act.put (Act.put (Act.mk #[aa,ab,ac,ad,ae,af,ag,ah,ai,aj,ak,al,am,an,ao,ap,aq,ar,au,av,aw,ax,ay,az,aA,aB,aC,aD,aE,aF,aG] []) (some 20) aH) (some 21) aI) (some 22) aJ) (some 23) aK) (some 24) aL) (some 25) aM) (some 26) aN) (some 27) aO) (some 28) aP):=
 zV2 qF hG h
set_option maxRecDepth 100000 in
theorem zS4 {o:Oper}{P:Program}{Q:Exit→Act→World→Prop}{K:Act→World→Prop}{W:World}{fs:List Fact}{G:Act→Prop}{aa ab ac ad ae af ag ah ai aj ak al am an ao ap aq ar au av aw ax ay az aA aB aC:Value}(hG:∀ A,o.wp P A W K Q→G A)(h:o.wp P (Act.mk #[aa,ab,ac,ad,ae,af,ag,ah,ai,av,aw,ax,ay,az,aA,aB,aC,ar,au] []) W K Q):zY0 W G [] fs (Act.put (Act.put (Act.put (Act.put (Act.put (Act.put (Act.put (Act.put (Act.mk #[aa,ab,ac,ad,ae,af,ag,ah,ai,aj,ak,al,am,an,ao,ap,aq,ar,au] []) (some 9) av) (some 10) aw) (some 11) ax) (some 12) ay) (some 13) az) (some 14) aA) (some 15) aB) (some 16) aC):=
 zV2 qF hG h
set_option maxRecDepth 100000 in
set_option maxHeartbeats 4000000 in
theorem zS7 (lo hi:Nat)(w:World)(hl:lo < 256)(hh:hi < 256):Calls Tryz.prog 223 #[.int .u8 (lo:Nat),.int .u8 (hi:Nat)] w (RetS w):=by
 go_enter Tryz.func223,Tryz.ntmps223
 have hb1:Below w.heap.size w ((w.alloc (.cells #[.int .u64 0,.int .u64 0,.int .u64 0,.int .u64 0] 230)).alloc (.cells #[.int .u64 0,.int .u64 0,.int .u64 0,.int .u64 0] 230)):=((Below.refl w.heap.size w).alloc qJ _).alloc (by simp) _;have Z1:=qK (show Blk ((w.alloc (.cells #[.int .u64 0,.int .u64 0,.int .u64 0,.int .u64 0] 230)).alloc (.cells #[.int .u64 0,.int .u64 0,.int .u64 0,.int .u64 0] 230)) w.heap.size 230 #[.int .u64 0,.int .u64 0,.int .u64 0,.int .u64 0] from(Blk.new w _ _).alloc _);have Z2:=qK (show Blk ((w.alloc (.cells #[.int .u64 0,.int .u64 0,.int .u64 0,.int .u64 0] 230)).alloc (.cells #[.int .u64 0,.int .u64 0,.int .u64 0,.int .u64 0] 230)) (w.heap.size+1) 230 #[.int .u64 0,.int .u64 0,.int .u64 0,.int .u64 0] from by
  have:=Blk.new (w.alloc (.cells #[.int .u64 0,.int .u64 0,.int .u64 0,.int .u64 0] 230)) 230 #[.int .u64 0,.int .u64 0,.int .u64 0,.int .u64 0];rw[World.size_alloc] at this;exact this)
 have HB:=qK hb1;clear hb1;go_wp2;generalize (w.alloc (.cells #[.int .u64 0,.int .u64 0,.int .u64 0,.int .u64 0] 230)).alloc (.cells #[.int .u64 0,.int .u64 0,.int .u64 0,.int .u64 0] 230)=w1 at Z1 Z2 HB ⊢;go_loopw [7] (fun iv wq=>∃ k:Nat,k≤256∧iv=.int .i64 (k:Nat)∧Hid (Blk wq w.heap.size 230 #[.int .u64 0,.int .u64 0,.int .u64 0,.int .u64 0])∧Hid (∃ a b c d:Int,Blk wq (w.heap.size+1) 230 #[.int .u64 a,.int .u64 b,.int .u64 c,.int .u64 d])∧Hid (Below w.heap.size w wq)) (fun iv _=>256-(intOf iv).toNat)
 case atStart=>exact⟨0,by omega,rfl,Z1,qK ⟨_,_,_,_,Z2.out⟩,HB⟩
 case round=>
  clear Z1 Z2 HB;obtain⟨k,hk,rfl,Z1,Z2,HB⟩:=hrel;by_cases hlt:k < 256
  ·have hlt':(k:Int) < 256:=by omega
   obtain⟨a,b,c,d,hz⟩:=Z2.out;obtain⟨q,hq⟩:∃ q:Nat,k / 64=q:=⟨_,rfl⟩;obtain⟨⟨x,hx⟩,hf⟩:=zC0 hz q qG;have p1:IntKind.i64.wrap ((k:Int) / 64)=(q:Int):=by simp[IntKind.wrap,IntKind.bits,IntKind.signed];omega
   have p2:(q:Int) < 4:=by omega
   have HZ:=qK hz;clear hz;have hzl:w.heap.size+1 < wr.heap.size:=HZ.out.lt;by_cases h1:lo≤k
   ·by_cases h2:k≤hi
    ·go_upto_region 6 with fail
     apply zZ5 qF [isv _,isv _,isv _,isv _,isv _,isv _,isv _,isv _,isv _] wr.heap.size wr qJ qH.drew qF qF qF qF qF (qC (qC (qC (qC (qC (qC (qC (qC (qC trivial))))))))) ?steps (by rfl) _ rfl rfl ?fin;case steps=>
      refine qA (qS 6) (qA (qQ 0 20) (qA (jF 5 1 21) (qA ?_ ?_)))
      ·intro AA W KK QQ hB hs hd hl hk;obtain⟨_,sl22,rfl⟩:=hd 2 22 qF rfl;clear hs hd hl;have hxx:=hB.cell (p:=⟨w.heap.size+1,q,none⟩) hzl;rw[hx] at hxx;go_simp;exact hk _ _ rfl qH
      exact qA (qS 6) (qA (qQ 4 24) (qA (qQ 5 25) (qA (qV 3 23 6 26) (qA (jF 5 1 21) trivial))))
     case fin=>
      intro wf hB GG hGG
      iterate 9 refine qN ?_
      refine zT1 hGG ?_;have hzf:=HZ.out.keep hB;have hff:=hzf.free q;have hxf:wf.cell? ⟨w.heap.size+1,q,none⟩=some (.int .u64 x):=(hB.cell (p:=⟨w.heap.size+1,q,none⟩) hzl).trans hx;have HS:=qK (fun v=>xT5 hzf q qG v);have HB2:=qK (HB.out.trans (hB.mono HB.out.size));have Z1f:=qK (Z1.out.keep hB);clear hzf hB;clear hGG;go_simp;go_wp2;go_roundw
      case rel=>exact⟨k+1,by omega,by go_num,qK ((HS.out _).1.blk Z1f.out qG),qK (HS.out _).2,qK (HB2.out.trans ((HS.out _).1.toBelow HB2.out.size fun b hb e=>by omega))⟩
      case measure=>simp[intOf];omega
    ·exact xM
   ·exact xM
  ·obtain rfl:k=256:=by omega
   obtain⟨a,b,c,d,hz⟩:=Z2.out;obtain⟨x0,x1,x2,x3⟩:=setC hz;obtain⟨y0,y1,y2,y3⟩:=setC Z1.out;obtain⟨f0,f1,f2,f3⟩:=setF Z1.out;go_wp2;obtain⟨hB8,hK8⟩:=res4 Z1.out (.int .u64 a) (.int .u64 b) (.int .u64 c) (.int .u64 d);have HR:=qK (HB.out.trans (hK8.toBelow HB.out.size fun b hb e=>by omega));obtain⟨z0,z1,z2,z3⟩:=setC hB8;refine bodyPost_ret (v:=.agg #[.int .u64 a,.int .u64 b,.int .u64 c,.int .u64 d]) ?_ rfl ⟨a,b,c,d,rfl,HR.out⟩;simp[results,Tryz.results223,go_sem,z0,z1,z2,z3]
set_option maxRecDepth 100000 in
set_option maxHeartbeats 4000000 in
theorem zK3 (a b c d a2 b2 c2 d2:Int)(w:World):Calls Tryz.prog 234 #[.agg #[.int .u64 a,.int .u64 b,.int .u64 c,.int .u64 d],.agg #[.int .u64 a2,.int .u64 b2,.int .u64 c2,.int .u64 d2]] w (RetS w):=by
 go_enter Tryz.func234,Tryz.ntmps234
 have hb1:Below w.heap.size w (((w.alloc (.cells #[.int .u64 a,.int .u64 b,.int .u64 c,.int .u64 d] 230)).alloc (.cells #[.int .u64 a2,.int .u64 b2,.int .u64 c2,.int .u64 d2] 230)).alloc (.cells #[.int .u64 0,.int .u64 0,.int .u64 0,.int .u64 0] 230)):=(((Below.refl w.heap.size w).alloc qJ _).alloc (by simp) _).alloc (by simp;omega) _;have Z1:=qK (show Blk (((w.alloc (.cells #[.int .u64 a,.int .u64 b,.int .u64 c,.int .u64 d] 230)).alloc (.cells #[.int .u64 a2,.int .u64 b2,.int .u64 c2,.int .u64 d2] 230)).alloc (.cells #[.int .u64 0,.int .u64 0,.int .u64 0,.int .u64 0] 230)) w.heap.size 230 #[.int .u64 a,.int .u64 b,.int .u64 c,.int .u64 d] from((Blk.new w _ _).alloc _).alloc _);have Z2:=qK (show Blk (((w.alloc (.cells #[.int .u64 a,.int .u64 b,.int .u64 c,.int .u64 d] 230)).alloc (.cells #[.int .u64 a2,.int .u64 b2,.int .u64 c2,.int .u64 d2] 230)).alloc (.cells #[.int .u64 0,.int .u64 0,.int .u64 0,.int .u64 0] 230)) (w.heap.size+1) 230 #[.int .u64 a2,.int .u64 b2,.int .u64 c2,.int .u64 d2] from by
  have:=(Blk.new (w.alloc (.cells #[.int .u64 a,.int .u64 b,.int .u64 c,.int .u64 d] 230)) 230 #[.int .u64 a2,.int .u64 b2,.int .u64 c2,.int .u64 d2]).alloc (.cells #[.int .u64 0,.int .u64 0,.int .u64 0,.int .u64 0] 230);rw[World.size_alloc] at this;exact this)
 have Z3:=qK (show Blk (((w.alloc (.cells #[.int .u64 a,.int .u64 b,.int .u64 c,.int .u64 d] 230)).alloc (.cells #[.int .u64 a2,.int .u64 b2,.int .u64 c2,.int .u64 d2] 230)).alloc (.cells #[.int .u64 0,.int .u64 0,.int .u64 0,.int .u64 0] 230)) (w.heap.size+1+1) 230 #[.int .u64 0,.int .u64 0,.int .u64 0,.int .u64 0] from by
  have:=Blk.new ((w.alloc (.cells #[.int .u64 a,.int .u64 b,.int .u64 c,.int .u64 d] 230)).alloc (.cells #[.int .u64 a2,.int .u64 b2,.int .u64 c2,.int .u64 d2] 230)) 230 #[.int .u64 0,.int .u64 0,.int .u64 0,.int .u64 0];rw[World.size_alloc,World.size_alloc] at this;exact this)
 have HB:=qK hb1;clear hb1;go_wp2;generalize ((w.alloc (.cells #[.int .u64 a,.int .u64 b,.int .u64 c,.int .u64 d] 230)).alloc (.cells #[.int .u64 a2,.int .u64 b2,.int .u64 c2,.int .u64 d2] 230)).alloc (.cells #[.int .u64 0,.int .u64 0,.int .u64 0,.int .u64 0] 230)=w1 at Z1 Z2 Z3 HB ⊢;go_loopw [6] (fun iv wq=>∃ k:Nat,k≤4∧iv=.int .i64 (k:Nat)∧Hid (∃ a b c d:Int,Blk wq w.heap.size 230 #[.int .u64 a,.int .u64 b,.int .u64 c,.int .u64 d])∧Hid (Blk wq (w.heap.size+1) 230 #[.int .u64 a2,.int .u64 b2,.int .u64 c2,.int .u64 d2])∧Hid (Blk wq (w.heap.size+1+1) 230 #[.int .u64 0,.int .u64 0,.int .u64 0,.int .u64 0])∧Hid (Below w.heap.size w wq)) (fun iv _=>4-(intOf iv).toNat)
 case atStart=>exact⟨0,by omega,rfl,qK ⟨_,_,_,_,Z1.out⟩,Z2,Z3,HB⟩
 case round=>
  clear Z1 Z2 Z3 HB;obtain⟨k,hk,rfl,Z1,Z2,Z3,HB⟩:=hrel;obtain⟨a,b,c,d,hz⟩:=Z1.out;by_cases hlt:k < 4
  ·have hlt':(k:Int) < 4:=by omega
   have p0:(0:Int)≤(k:Int):=by omega
   obtain⟨⟨x,hx⟩,hf⟩:=zC0 hz k qG;obtain⟨⟨y,hy⟩,_⟩:=zC0 Z2.out k qG;have HZ:=qK hz;clear hz;have hzl:w.heap.size < wr.heap.size:=HZ.out.lt;have hzl2:w.heap.size+1 < wr.heap.size:=Z2.out.lt;go_upto_region 4 with fail
   apply zZ5 qF [isv _,isv _,isv _,isv _,isv _,isv _,isv _,isv _] wr.heap.size wr qJ qH.drew qF qF qF qF qF (qC (qC (qC (qC (qC (qC (qC (qC trivial)))))))) ?steps (by rfl) _ rfl rfl ?fin;case steps=>
    refine qA (qS 5) (qA (jF 2 0 9) (qA ?_ ?_))
    ·intro AA W KK QQ hB hs hd hl hk;obtain⟨_,sl10,rfl⟩:=hd 1 10 qF rfl;clear hs hd hl;have hxx:=hB.cell (p:=⟨w.heap.size,k,none⟩) hzl;rw[hx] at hxx;go_simp;exact hk _ _ rfl qH
    refine qA (qS 5) (qA (jF 3 3 12) (qA ?_ ?_))
    ·intro AA W KK QQ hB hs hd hl hk;obtain⟨_,sl13,rfl⟩:=hd 4 13 qF rfl;clear hs hd hl;have hxx:=hB.cell (p:=⟨w.heap.size+1,k,none⟩) hzl2;rw[hy] at hxx;go_simp;exact hk _ _ rfl qH
    exact qA (qV 2 11 5 14) (qA (jF 2 0 9) trivial)
   case fin=>
    intro wf hB GG hGG
    iterate 8 refine qN ?_
    refine zS4 hGG ?_;have hzf:=HZ.out.keep hB;have hff:=hzf.free k;have hxf:wf.cell? ⟨w.heap.size,k,none⟩=some (.int .u64 x):=(hB.cell (p:=⟨w.heap.size,k,none⟩) hzl).trans hx;have HS:=qK (fun v=>xT5 hzf k qG v);have HB2:=qK (HB.out.trans (hB.mono HB.out.size));have Z2f:=qK (Z2.out.keep hB);have Z3f:=qK (Z3.out.keep hB);clear hzf hB hGG;go_simp;go_wp2;go_roundw
    case rel=>exact⟨k+1,by omega,by go_num,qK (HS.out _).2,qK ((HS.out _).1.blk Z2f.out qG),qK ((HS.out _).1.blk Z3f.out qG),qK (HB2.out.trans ((HS.out _).1.toBelow HB2.out.size fun b hb e=>by omega))⟩
    case measure=>simp[intOf];omega
  ·obtain rfl:k=4:=by omega
   obtain⟨x0,x1,x2,x3⟩:=setC hz;obtain⟨y0,y1,y2,y3⟩:=setC Z3.out;obtain⟨f0,f1,f2,f3⟩:=setF Z3.out;go_wp2;obtain⟨hB8,hK8⟩:=res4 Z3.out (.int .u64 a) (.int .u64 b) (.int .u64 c) (.int .u64 d);have HR:=qK (HB.out.trans (hK8.toBelow HB.out.size fun b hb e=>by omega));obtain⟨z0,z1,z2,z3⟩:=setC hB8;refine bodyPost_ret (v:=.agg #[.int .u64 a,.int .u64 b,.int .u64 c,.int .u64 d]) ?_ rfl ⟨a,b,c,d,rfl,HR.out⟩;simp[results,Tryz.results234,go_sem,z0,z1,z2,z3]
set_option maxRecDepth 100000 in
set_option maxHeartbeats 4000000 in
theorem xT6 (a b c d:Int)(w:World):Calls Tryz.prog 235 #[.agg #[.int .u64 a,.int .u64 b,.int .u64 c,.int .u64 d]] w (RetS w):=by
 go_enter Tryz.func235,Tryz.ntmps235
 have hb1:Below w.heap.size w ((w.alloc (.cells #[.int .u64 a,.int .u64 b,.int .u64 c,.int .u64 d] 230)).alloc (.cells #[.int .u64 0,.int .u64 0,.int .u64 0,.int .u64 0] 230)):=((Below.refl w.heap.size w).alloc qJ _).alloc (by simp) _;have Z1:=qK (show Blk ((w.alloc (.cells #[.int .u64 a,.int .u64 b,.int .u64 c,.int .u64 d] 230)).alloc (.cells #[.int .u64 0,.int .u64 0,.int .u64 0,.int .u64 0] 230)) w.heap.size 230 #[.int .u64 a,.int .u64 b,.int .u64 c,.int .u64 d] from(Blk.new w _ _).alloc _);have Z3:=qK (show Blk ((w.alloc (.cells #[.int .u64 a,.int .u64 b,.int .u64 c,.int .u64 d] 230)).alloc (.cells #[.int .u64 0,.int .u64 0,.int .u64 0,.int .u64 0] 230)) (w.heap.size+1) 230 #[.int .u64 0,.int .u64 0,.int .u64 0,.int .u64 0] from by
  have:=Blk.new (w.alloc (.cells #[.int .u64 a,.int .u64 b,.int .u64 c,.int .u64 d] 230)) 230 #[.int .u64 0,.int .u64 0,.int .u64 0,.int .u64 0];rw[World.size_alloc] at this;exact this)
 have HB:=qK hb1;clear hb1;go_wp2;generalize (w.alloc (.cells #[.int .u64 a,.int .u64 b,.int .u64 c,.int .u64 d] 230)).alloc (.cells #[.int .u64 0,.int .u64 0,.int .u64 0,.int .u64 0] 230)=w1 at Z1 Z3 HB ⊢;go_loopw [4] (fun iv wq=>∃ k:Nat,k≤4∧iv=.int .i64 (k:Nat)∧Hid (∃ a b c d:Int,Blk wq w.heap.size 230 #[.int .u64 a,.int .u64 b,.int .u64 c,.int .u64 d])∧Hid (Blk wq (w.heap.size+1) 230 #[.int .u64 0,.int .u64 0,.int .u64 0,.int .u64 0])∧Hid (Below w.heap.size w wq)) (fun iv _=>4-(intOf iv).toNat)
 case atStart=>exact⟨0,by omega,rfl,qK ⟨_,_,_,_,Z1.out⟩,Z3,HB⟩
 case round=>
  clear Z1 Z3 HB;obtain⟨k,hk,rfl,Z1,Z3,HB⟩:=hrel;obtain⟨a,b,c,d,hz⟩:=Z1.out;by_cases hlt:k < 4
  ·have hlt':(k:Int) < 4:=by omega
   have p0:(0:Int)≤(k:Int):=by omega
   obtain⟨⟨x,hx⟩,hf⟩:=zC0 hz k qG;have HS:=qK (fun v=>xT5 hz k qG v);clear hz;go_wp2;go_roundw
   case rel=>exact⟨k+1,by omega,by go_num,qK (HS.out _).2,qK ((HS.out _).1.blk Z3.out qG),qK (HB.out.trans ((HS.out _).1.toBelow HB.out.size fun b hb e=>by omega))⟩
   case measure=>simp[intOf];omega
  ·obtain rfl:k=4:=by omega
   obtain⟨x0,x1,x2,x3⟩:=setC hz;obtain⟨y0,y1,y2,y3⟩:=setC Z3.out;obtain⟨f0,f1,f2,f3⟩:=setF Z3.out;go_wp2;obtain⟨hB8,hK8⟩:=res4 Z3.out (.int .u64 a) (.int .u64 b) (.int .u64 c) (.int .u64 d);have HR:=qK (HB.out.trans (hK8.toBelow HB.out.size fun b hb e=>by omega));obtain⟨z0,z1,z2,z3⟩:=setC hB8;refine bodyPost_ret (v:=.agg #[.int .u64 a,.int .u64 b,.int .u64 c,.int .u64 d]) ?_ rfl ⟨a,b,c,d,rfl,HR.out⟩;simp[results,Tryz.results235,go_sem,z0,z1,z2,z3]
theorem xT7 (c:UInt8):digP c=if 48≤c.toNat∧c.toNat≤57 then some (c.toNat-48) else if 97≤c.toNat∧c.toNat≤102 then some (c.toNat-87) else if 65≤c.toNat∧c.toNat≤70 then some (c.toNat-55) else none:=rfl
theorem yI7 {c:UInt8}{v:Nat}(h:digP c=some v):v < 16:=by
 rw[xT7] at h;split at h
 ·injection h with h;omega
 ·split at h
  ·injection h with h;omega
  ·split at h
   ·injection h with h;omega
   ·cases h
def digV (c:UInt8):Ending:=.returned (.tuple #[.int .u8 ((digP c).getD 0:Nat),.bool (digP c).isSome])
set_option maxHeartbeats 1000000 in
theorem yL3 (c:UInt8)(w:World):Calls Tryz.prog 245 #[.int .u8 (c.toNat:Nat)] w fun e w'=>e=digV c∧w'=w:=by
 unfold digV;rw[xT7];have hc:=c.toNat_lt;generalize c.toNat=n at hc ⊢;by_cases h1:48≤n∧n≤57
 ·have p1:IntKind.u8.wrap ((n:Int)-48)=((n-48:Nat):Int):=by simp[IntKind.wrap,IntKind.bits,IntKind.signed];omega
  have i1:(48:Int)≤(n:Int):=by omega
  have i2:(n:Int)≤57:=by omega
  rw[if_pos h1];go_enter Tryz.func245,Tryz.ntmps245
  go_wp2;all_goals first
   | (exfalso;omega)
   | (refine bodyPost_ret (v:=.tuple #[.int .u8 (n-48:Nat),.bool true]) (by simp[results,Tryz.results245,go_sem]) rfl ⟨rfl,rfl⟩)
 ·by_cases h2:97≤n∧n≤102
  ·have p1:IntKind.u8.wrap ((n:Int)-97)=((n-97:Nat):Int):=by simp[IntKind.wrap,IntKind.bits,IntKind.signed];omega
   have p2:IntKind.u8.wrap (((n-97:Nat):Int)+10)=((n-87:Nat):Int):=by simp[IntKind.wrap,IntKind.bits,IntKind.signed];omega
   have i1:(48:Int)≤(n:Int):=by omega
   have i2:¬ (n:Int)≤57:=by omega
   have i3:(97:Int)≤(n:Int):=by omega
   have i4:(n:Int)≤102:=by omega
   rw[if_neg h1,if_pos h2];go_enter Tryz.func245,Tryz.ntmps245
   go_wp2;all_goals first
    | (exfalso;omega)
    | (refine bodyPost_ret (v:=.tuple #[.int .u8 (n-87:Nat),.bool true]) (by simp[results,Tryz.results245,go_sem]) rfl ⟨rfl,rfl⟩)
  ·by_cases h3:65≤n∧n≤70
   ·have p1:IntKind.u8.wrap ((n:Int)-65)=((n-65:Nat):Int):=by simp[IntKind.wrap,IntKind.bits,IntKind.signed];omega
    have p2:IntKind.u8.wrap (((n-65:Nat):Int)+10)=((n-55:Nat):Int):=by simp[IntKind.wrap,IntKind.bits,IntKind.signed];omega
    have i1:(48:Int)≤(n:Int):=by omega
    have i2:¬ (n:Int)≤57:=by omega
    have i3:¬ (97:Int)≤(n:Int):=by omega
    have i4:(65:Int)≤(n:Int):=by omega
    have i5:(n:Int)≤70:=by omega
    rw[if_neg h1,if_neg h2,if_pos h3];go_enter Tryz.func245,Tryz.ntmps245
    go_wp2;all_goals first
     | (exfalso;omega)
     | (refine bodyPost_ret (v:=.tuple #[.int .u8 (n-55:Nat),.bool true]) (by simp[results,Tryz.results245,go_sem]) rfl ⟨rfl,rfl⟩)
   ·rw[if_neg h1,if_neg h2,if_neg h3];go_enter Tryz.func245,Tryz.ntmps245
    go_wp2;all_goals first
     | (exfalso;omega)
     | (refine bodyPost_ret (v:=.tuple #[.int .u8 (0:Nat),.bool false]) (by simp[results,Tryz.results245,go_sem]) rfl ⟨rfl,rfl⟩)
theorem PB.at_ {w:World}{b:Nat}{s:Tx}{i:Nat}(h:PB w b s i)(j:Nat):PB (w.setCell ⟨b,1,none⟩ (.int .i64 (j:Nat))) b s j∧Kp (· = b) w (w.setCell ⟨b,1,none⟩ (.int .i64 (j:Nat))):=
 ⟨by unfold PB at h ⊢;simpa using h.set_ 1 (.int .i64 (j:Nat)),(Kp.refl (· = b) w).setCell (p:=⟨b,1,none⟩) rfl _⟩
theorem PB.cells {w:World}{b:Nat}{s:Tx}{i:Nat}(h:PB w b s i):w.cell? ⟨b,0,none⟩=some (.string ⟨s.toArray⟩)∧w.cell? ⟨b,1,none⟩=some (.int .i64 (i:Nat))∧w.frozen? ⟨b,1,none⟩=false:=⟨(show Blk _ _ _ _ from h).cell 0,(show Blk _ _ _ _ from h).cell 1,(show Blk _ _ _ _ from h).free 1⟩
def RetB (b:Nat)(s:Tx)(o:Option (Nat × List UInt8))(w:World)(e:Ending)(w':World):Prop:=
 Kp (· = b) w w'∧∃ j,j≤s.length∧PB w' b s j∧match o with
  | some (v,t)=>e=.returned (.int .u8 (v:Nat))∧s.drop j=t∧v < 256
  | none=>∃ k,e=flt k
theorem zW7 (s:Tx)(i:Nat):zU0 s i=((s.drop i).head?).getD 0:=by rw[List.head?_drop];rfl
theorem xT8 (zX0:Nat)(s:Tx)(j:Nat):hexP zX0 (s.drop j)=match digP (zU0 s j),digP (zU0 s (j+1)) with
  | some x,some y=>if x*16+y < zX0 then none else some (x*16+y,s.drop (j+2))
  | _,_=>none:=by
 rw[zW7,zW7,show s.drop (j+1)=(s.drop j).drop 1 from(List.drop_drop ..).symm,show s.drop (j+2)=(s.drop j).drop 2 from(List.drop_drop ..).symm];generalize s.drop j=r;match r with
 | []=>rfl
 | [a]=>
   simp only[hexP,List.drop_one,List.tail_cons,List.head?_nil,List.head?_cons,Option.getD_none,Option.getD_some];cases digP a <;> rfl
 | a ::c ::t=>rfl
theorem xT9 {s:Tx}{i x:Nat}(h:digP (zU0 s i)=some x):i < s.length:=by
 by_cases hi:i < s.length
 ·exact hi
 ·unfold zU0 at h;rw[List.getElem?_eq_none qG] at h;have e:digP ((none:Option UInt8).getD 0)=none:=by decide
  rw[e] at h;cases h
theorem zX8 {b:Nat}{s:Tx}{w w':World}{j:Nat}{k:Int}(hk:Kp (· = b) w w')(hP:PB w' b s j)(hj:j≤s.length):RetB b s none w (flt k) w':=⟨hk,j,hj,hP,k,rfl⟩
theorem zO8 {b:Nat}{s:Tx}{w w':World}{j v:Nat}(hk:Kp (· = b) w w')(hP:PB w' b s j)(hj:j≤s.length)(hv:v < 256):RetB b s (some (v,s.drop j)) w (.returned (.int .u8 (v:Nat))) w':=⟨hk,j,hj,hP,rfl,rfl,hv⟩
theorem xS0:∀ x y:Fin 16,bits BinOp.or .u8 ((x.val*16:Nat):Int) ((y.val:Nat):Int)=((x.val*16+y.val:Nat):Int):=by decide
theorem yL4 {c:UInt8}(h:digP c=none):digV c=.returned (.tuple #[.int .u8 0,.bool false]):=by unfold digV;rw[h];rfl
theorem yL5 {c:UInt8}{x:Nat}(h:digP c=some x):digV c=.returned (.tuple #[.int .u8 (x:Nat),.bool true]):=by unfold digV;rw[h];rfl
set_option maxRecDepth 100000 in
set_option maxHeartbeats 1000000 in
theorem hex_any (b:Nat)(s:Tx)(i zX0:Nat)(w:World)(hB:PB w b s i)(hs:s.length≤1000)(hi:i < s.length):Calls Tryz.prog 236 #[.pointer (some ⟨b,0,none⟩),.int .u8 (zX0:Nat)] w (RetB b s (hexP zX0 (s.drop (i+1))) w):=by
 rw[xT8];have HP:=qK (hB.at_ (i+1));obtain⟨x0,x1,f1⟩:=hB.cells;obtain⟨i1,hi1⟩:∃ i1,i+1=i1:=⟨_,rfl⟩;obtain⟨i2,hi2⟩:∃ i2,i1+1=i2:=⟨_,rfl⟩;obtain⟨i3,hi3⟩:∃ i3,i1+2=i3:=⟨_,rfl⟩;have p1:IntKind.i64.wrap ((i:Int)+1)=(i1:Int):=by simp[IntKind.wrap,IntKind.bits,IntKind.signed];omega
 have p2:IntKind.i64.wrap ((i1:Int)+1)=(i2:Int):=by simp[IntKind.wrap,IntKind.bits,IntKind.signed];omega
 have p3:IntKind.i64.wrap ((i2:Int)+1)=(i3:Int):=by simp[IntKind.wrap,IntKind.bits,IntKind.signed];omega
 rw[hi1] at HP ⊢;rw[hi2,hi3];have HI:=qK (show i1≤s.length from by omega);have HI2:=qK (show i2=i1+1∧i3=i2+1 from by omega);clear hB hi1 hi2 hi3;have hlt1:=@xT9 s i1;have hlt2:=@xT9 s i2;have hn1:=zU1 b s i1;have hn2:=zU1 b s i2;generalize zU0 s i1=c1 at hlt1 hn1 ⊢;generalize zU0 s i2=c2 at hlt2 hn2 ⊢;generalize hO:(match digP c1,digP c2 with
  | some x,some y=>if x*16+y < zX0 then none else some (x*16+y,s.drop i3)
  | _,_=>none)=O
 have HO:=qK hO;clear hO;have Hn1:=qK hn1;have Hn2:=qK hn2;clear hn1 hn2;have hi0:∀ W,(Instr.index 283 (.agg #[.int .u8 15,.int .u8 0]) (.int .i64 0)).run Tryz.prog W=.ok (.int .u8 15) W:=fun _=>by kernel_rfl
 have hj0:∀ W,(Instr.index 283 (.agg #[.int .u8 15,.int .u8 0]) (.int .i64 1)).run Tryz.prog W=.ok (.int .u8 0) W:=fun _=>by kernel_rfl
 go_enter Tryz.func236,Tryz.ntmps236
 go_wp2;apply wp_loop_rounds 3;rw[rounds_succ];go_upto_region 6 with fail
 generalize w.setCell ⟨b,1,none⟩ (.int .i64 (i1:Nat))=w1 at HP ⊢;go_wp2_with fail
 refine(Hn1.out w1 HP.out.1 hs HI.out).mono ?_;rintro e w2 ⟨rfl,hb2⟩;go_wp2_with fail
 refine(yL3 c1 w2).mono ?_;rintro e w3 ⟨rfl,rfl⟩;have HK:=qK (HP.out.2.trans (Kp.ofBelow hb2 _));have HP2:=qK (show PB w3 b s i1 from(show Blk _ _ _ _ from HP.out.1).keep hb2);clear hb2 HP x0 x1 f1;obtain⟨x0,x1,f1⟩:=HP2.out.cells;cases hd1:digP c1 with
 | none=>
   rw[yL4 hd1];obtain rfl:O=none:=by rw[←HO.out,hd1]
   clear hd1 hlt1 hlt2 HO;go_wp2_with fail
   refine(zX1 b _ w3).mono ?_;rintro e w4 ⟨rfl,rfl⟩;exact⟨rfl,zX8 HK.out HP2.out HI.out⟩
 | some x=>
   rw[yL5 hd1];have hx:=yI7 hd1;have HI3:=qK (hlt1 hd1);have o1:bits BinOp.or .u8 0 (x:Nat)=(x:Int):=by have:=xS0 ⟨0,by decide⟩ ⟨x,hx⟩;simpa using this
   have o2:bits BinOp.or .u8 ((x*16:Nat):Int) 15=((x*16+15:Nat):Int):=xS0 ⟨x,hx⟩ ⟨15,by decide⟩;have o3:IntKind.u8.wrap ((x:Int)*16)=((x*16:Nat):Int):=by simp[IntKind.wrap,IntKind.bits,IntKind.signed];omega
   have HO1:=qK (show (match some x,digP c2 with
    | some x,some y=>if x*16+y < zX0 then none else some (x*16+y,s.drop i3)
    | _,_=>none)=O from by rw[←HO.out,hd1])
   have HOr:=qK (fun y (hy:y < 16)=>xS0 ⟨x,hx⟩ ⟨y,hy⟩);clear hd1 hlt1 HO;obtain⟨q,hq⟩:∃ q,x*16=q:=⟨_,rfl⟩;obtain⟨q15,hq15⟩:∃ q15,q+15=q15:=⟨_,rfl⟩;rw[hq] at o2 o3;rw[hq15] at o2;have HQ:=qK (show x*16=q∧q+15=q15∧x < 16 from⟨hq,hq15,hx⟩);simp only[hq] at HOr;clear hq hq15 hx;by_cases hle:q15 < zX0
   ·have hle':(q15:Int) < (zX0:Int):=by omega
    have HL:=qK hle;clear hle;obtain rfl:O=none:=by
     rw[←HO1.out];cases hd2:digP c2 with
     | none=>rfl
     | some y=>
       have h1:=yI7 hd2;have h2:=HQ.out;have h3:=HL.out;exact if_pos qG
    go_wp2_with fail
    refine(zX1 b _ w3).mono ?_;rintro e w4 ⟨rfl,rfl⟩;exact⟨rfl,zX8 HK.out HP2.out HI.out⟩
   ·have hle':¬ (q15:Int) < (zX0:Int):=by omega
    clear hle;have HP3:=qK (HP2.out.at_ i2);have HI4:=qK (show i2≤s.length from by have:=HI2.out;have:=HI3.out;omega);go_wp2;rw[rounds_succ];go_upto_region 6 with fail
    clear x0 x1 f1;generalize w3.setCell ⟨b,1,none⟩ (.int .i64 (i2:Nat))=w5 at HP3 ⊢;go_wp2_with fail
    refine(Hn2.out w5 HP3.out.1 hs HI4.out).mono ?_;rintro e w6 ⟨rfl,hb6⟩;go_wp2_with fail
    refine(yL3 c2 w6).mono ?_;rintro e w7 ⟨rfl,rfl⟩;have HK7:=qK ((HK.out.trans HP3.out.2).trans (Kp.ofBelow hb6 _));have HP7:=qK (show PB w7 b s i2 from(show Blk _ _ _ _ from HP3.out.1).keep hb6);clear hb6 HP3 HK HP2;obtain⟨x0,x1,f1⟩:=HP7.out.cells;cases hd2:digP c2 with
    | none=>
      rw[yL4 hd2];obtain rfl:O=none:=by rw[←HO1.out,hd2]
      clear hd2 hlt2 HO1;go_wp2_with fail
      refine(zX1 b _ w7).mono ?_;rintro e w8 ⟨rfl,rfl⟩;exact⟨rfl,zX8 HK7.out HP7.out HI4.out⟩
    | some y=>
      rw[yL5 hd2];have hy:=yI7 hd2;have HI5:=qK (hlt2 hd2);have o4:=HOr.out y hy;have HO2:=qK (show (if x*16+y < zX0 then none else some (x*16+y,s.drop i3))=O from by rw[←HO1.out,hd2]);obtain⟨v,hv⟩:∃ v,q+y=v:=⟨_,rfl⟩;have HV:=qK (show x*16+y=v∧v < 256 from by have:=HQ.out;omega);rw[hv] at o4;clear hd2 hlt2 HO1 HOr hv hy;by_cases hle2:v < zX0
      ·have hle2':(v:Int) < (zX0:Int):=by omega
       obtain rfl:O=none:=by rw[←HO2.out,HV.out.1];exact if_pos hle2
       clear HO2 hle2;go_wp2_with fail
       refine(zX1 b _ w7).mono ?_;rintro e w8 ⟨rfl,rfl⟩;exact⟨rfl,zX8 HK7.out HP7.out HI4.out⟩
      ·have hle2':¬ (v:Int) < (zX0:Int):=by omega
       obtain rfl:O=some (v,s.drop i3):=by rw[←HO2.out,HV.out.1];exact if_neg hle2
       clear HO2 hle2;have HP9:=qK (HP7.out.at_ i3);have HR:=qK (zO8 (HK7.out.trans HP9.out.2) HP9.out.1 (by have:=HI2.out;have:=HI5.out;omega) HV.out.2);go_wp2;rw[rounds_succ];go_wp2;go_ret;exact HR.out
end Go.Proofs.YtdgehhgjgifikaaGreatDoor
