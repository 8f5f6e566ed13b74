/- What the claim needs of:ZH SG SU Mem3 Sort. -/
import Derived.Test.YtdgehhgjgifikaaGreatDoorN24
import Derived.Shelf.SlSortCmp.KitK
import Derived.Test.YtdgehhgjgifikaaGreatDoorN13
import Derived.Test.YtdgehhgjgifikaaGreatDoorN1
import Derived.Shelf.SlSortCmp.WholeK
import Derived.Shelf.SlSortCmp.PdqK
import Derived.Lib.QuietBelow
namespace Go.Proofs.YtdgehhgjgifikaaGreatDoor
open Go.RowKit
section
variable {X:Type}{R:RF}{C:Clo X}{n s q:Nat}{σ:GS X}{Im:Nat→Prop}{wx wy:World}
theorem St.clo (h:St R C n (s+q) σ Im wx){x':X}{N:Nat→Prop}(hk:Kp N wx wy)(hN:∀ b,N b→C.M σ.x b)(hAt:C.At x' wy)(hM:∀ b,C.M x' b→C.M σ.x b∨(wx.heap.size≤b∧b < wy.heap.size))(hct:C.ct x'≤C.ct σ.x+q) :
  St R C n s {σ with x:=x'} Im wy∧Sp (zn R C σ Im) wx (zn R C {σ with x:=x'} Im) wy∧Gr wx σ {σ with x:=x'}:=by
 have hs:=hk.size
 have hNM:∀ b,N b→(zn R C σ Im).Mut b:=fun b hb=>.inr (.inr (.inr (.inr (hN b hb))))
 have hiN:∀ b,Im b→¬ N b:=fun b hb hn=>(h.zo.mu b (hNM b hn)).2 hb
 have hcm:∀ b,N b→b≠R.r∧b∉R.uB∧(∀ o∈σ.ρ.objs,o.blk≠b)∧σ.av.ownBlock≠some b:=fun b hb=>h.cm b (hN b hb)
 have hmu:∀ b,(zn R C {σ with x:=x'} Im).Mut b→(zn R C σ Im).Mut b∨(wx.heap.size≤b∧b < wy.heap.size):=fun b hb=>by
  rcases hb with h1 | h1 | h1 | h1 | h1
  ·exact .inl (.inl h1)
  ·exact .inl (.inr (.inl h1))
  ·exact .inl (.inr (.inr (.inl h1)))
  ·exact .inl (.inr (.inr (.inr (.inl h1))))
  ·exact(hM b h1).imp_left fun h2=>.inr (.inr (.inr (.inr h2)))
 have hok:(zn R C {σ with x:=x'} Im).Ok wy:=⟨fun b hb=>by
  rcases hmu b hb with h1 | ⟨h1,h2⟩
  ·exact⟨Nat.lt_of_lt_of_le (h.zo.mu b h1).1 hs,(h.zo.mu b h1).2⟩
  ·exact⟨h2,fun hi=>by have:=h.zo.im b hi;omega⟩,fun b hb=>Nat.lt_of_lt_of_le (h.zo.im b hb) hs⟩
 refine⟨⟨⟨hk.blk h.rs.rc fun e=>(hcm _ e).1 rfl,Nat.lt_of_lt_of_le h.rs.rl hs,(h.rs.mp.keptA hk (imN h.im.1 hiN) (imN h.im.2.1 hiN) (fun b hb=>hiN b (h.im.2.2 b hb)) (fun b hb hn=>(hcm b hn).2.1 hb)).more hs,(h.rs.ob.kept hk fun o ho hn=>(hcm _ hn).2.2.1 o ho rfl).more hs⟩,
  zV5 h.al hk (fun b hb hn=>(hcm b hn).2.2.2 hb),hAt,hok,fun b hb=>?_,h.am,h.im,fun o ho=>(h.lo o ho).kept hk hiN (fun _ h=>h),?_,by have:=h.lv;show wObs σ.ρ.objs+s≤n;omega⟩,⟨hk.mono hNM,fun b hb=>(hmu b hb).imp_right (·.1),fun _ h=>h,fun _ h=>.inl h,hok⟩,⟨fun o ho=>⟨o,ho,rfl⟩,fun _ _=>rfl⟩⟩
 ·rcases hM b hb with h1 | ⟨h1,_⟩
  ·exact h.cm b h1
  ·refine⟨fun e=>?_,fun hu=>?_,fun o ho e=>?_,fun ha=>?_⟩
   ·have:=h.rs.rl;omega
   ·have:=h.rs.mp.uB b hu;omega
   ·have:=h.rs.ob.lt o ho;omega
   ·have:=(zR6 h.al b ha).2;omega
 ·have:=h.bu
  show C.ct x'+(σ.ρ.all.length+wObs σ.ρ.objs+s)≤_
  omega
end
def encU (u:Us):List Value:=[.int .i64 u.file,.int .i64 u.pos,.string ⟨u.name.toArray⟩,.int .i64 u.kind,.int .i64 u.depth]
theorem yU5 (u:Us):(encU u).length=5:=rfl
theorem elUse:ElT Tryz.prog 27 52 5 48:=ElT.mk_ (z:=.agg #[.int .i64 0,.int .i64 0,.string ByteArray.empty,.int .i64 0,.int .i64 0]) Tryz.underlying27 (by kernel_rfl) (by kernel_rfl) (by decide)
def cloU (bx:Nat):Clo (Value × List Us) where
 M x b:=b=bx∨x.1.ownBlock=some b
 At x w:=Blk w bx 27 #[x.1]∧w.ownsRow 0 52 5 x.1 x.2.length (x.2.flatMap encU)
 keep h hk hM:=⟨hk.blk h.1 (hM _ (.inl rfl)),zV5 h.2 hk fun b hb=>hM b (.inr hb)⟩
 ct x:=x.2.length
def yP5 (t:Tx)(pos:Int)(x:Int × Int × Option Nat)(file:Nat):Us:=⟨file,pos,t,x.1,x.2.1⟩
def UU (_bx:Nat):UseR (Value × List Us):=fun σ e x file σ' e'=>e'=e∧∃ v',σ'= {σ with x:=(v',σ.x.2++ [match e with | .mk _ t _ _ _ _ _ _ _ _ _ _ _ _ pos=>yP5 t pos x file])}
theorem bx_grown {w wy:World}{o:Obj}{base e size n g:Nat}{v:Value}{xs:List Value}{ty:TypeId}{cs:Array Value}(h:w.ownsRow base e size v n xs)(hb:Blk w g ty cs)(hg:(w.alloc o).grownBy wy v.ownBlock)(hne:ty≠e:=by decide):Blk wy g ty cs:=
 (((Kp.refl (fun b=>v.ownBlock=some b) w).alloc o).grown hg fun _ hk=>.inl hk).blk hb (fun e=>zS1 h hb hne _ e rfl)
section
variable {R:RF}{n bx:Nat}
set_option maxRecDepth 100000 in
set_option maxHeartbeats 4000000 in
theorem cloOkU:yV7 R (cloU bx) n (UU bx) 40 #[.pointer (some ⟨bx,0,none⟩)]:=by
 intro σ Im w s k t m a b As cs subs Ad cd decls At ct tail pos x file hS hOk hx hf hkd
 clear hkd
 obtain⟨w1,hw1⟩:∃ w1,(((w.alloc (.cells #[.int .i64 k,.string ⟨t.toArray⟩,.int .i64 m,.string ⟨a.toArray⟩,.string ⟨b.toArray⟩,.slice As subs.length cs,.slice Ad decls.length cd,.slice At tail.length ct,.int .i64 pos] 67)).alloc (.cells #[.int .i64 (file:Nat),.int .i64 pos,.string ⟨t.toArray⟩,.int .i64 x.1,.int .i64 x.2.1] 52)).alloc (.cells #[.int .i64 0,.string ⟨#[]⟩,.int .i64 0,.string ⟨#[]⟩,.string ⟨#[]⟩,.slice none 0 0,.slice none 0 0,.slice none 0 0,.int .i64 0] 67))=w1:=⟨_,rfl⟩
 have hb1:Below w.heap.size w w1:=by rw[←hw1];exact((((Below.refl w.heap.size w).alloc (Nat.le_refl _) _).alloc (by simp) _).alloc (by simp;omega) _)
 have hz1:w1.heap.size=w.heap.size+1+1+1:=by rw[←hw1];simp
 have F1:=Lib.hid ((Fr.start hS).below hb1)
 have M1:=Lib.hid (show Mine (zn R (cloU bx) σ Im) w1 (w.heap.size+2)∧Mine (zn R (cloU bx) σ Im) w1 w.heap.size from⟨hS.zo.new_ (by omega) (by omega),hS.zo.new_ (by omega) (by omega)⟩)
 have B1:=Lib.hid (show Blk w1 w.heap.size 67 #[.int .i64 k,.string ⟨t.toArray⟩,.int .i64 m,.string ⟨a.toArray⟩,.string ⟨b.toArray⟩,.slice As subs.length cs,.slice Ad decls.length cd,.slice At tail.length ct,.int .i64 pos] from by rw[←hw1];exact((Blk.new w _ _).alloc _).alloc _)
 have V1:=Lib.hid (show Blk w1 (w.heap.size+1) 52 #[.int .i64 (file:Nat),.int .i64 pos,.string ⟨t.toArray⟩,.int .i64 x.1,.int .i64 x.2.1] from by
  rw[←hw1]
  have:=Blk.new (w.alloc (.cells #[.int .i64 k,.string ⟨t.toArray⟩,.int .i64 m,.string ⟨a.toArray⟩,.string ⟨b.toArray⟩,.slice As subs.length cs,.slice Ad decls.length cd,.slice At tail.length ct,.int .i64 pos] 67)) 52 #[.int .i64 (file:Nat),.int .i64 pos,.string ⟨t.toArray⟩,.int .i64 x.1,.int .i64 x.2.1]
  rw[World.size_alloc] at this
  exact this.alloc _)
 have Z1:=Lib.hid (show Blk w1 (w.heap.size+2) 67 #[.int .i64 0,.string ⟨#[]⟩,.int .i64 0,.string ⟨#[]⟩,.string ⟨#[]⟩,.slice none 0 0,.slice none 0 0,.slice none 0 0,.int .i64 0] from by
  rw[←hw1]
  have:=Blk.new ((w.alloc (.cells #[.int .i64 k,.string ⟨t.toArray⟩,.int .i64 m,.string ⟨a.toArray⟩,.string ⟨b.toArray⟩,.slice As subs.length cs,.slice Ad decls.length cd,.slice At tail.length ct,.int .i64 pos] 67)).alloc (.cells #[.int .i64 (file:Nat),.int .i64 pos,.string ⟨t.toArray⟩,.int .i64 x.1,.int .i64 x.2.1] 52)) 67 #[.int .i64 0,.string ⟨#[]⟩,.int .i64 0,.string ⟨#[]⟩,.string ⟨#[]⟩,.slice none 0 0,.slice none 0 0,.slice none 0 0,.int .i64 0]
  rw[World.size_alloc,World.size_alloc] at this
  exact this)
 have O1:=Lib.hid ((zZ5 (Kp.ofBelow hb1 (fun _=>False)) (fun _ _ h=>h) (fun _ h=>h)).1 _ hOk)
 have hbu:=hS.bu
 have hct:(cloU bx).ct σ.x=σ.x.2.length:=rfl
 rw[hct] at hbu
 have HBu:=Lib.hid (show σ.x.2.length≤1099511627776 from by omega)
 have HZ1:=Lib.hid hz1
 clear hS hOk hf hb1 hbu hct hz1
 simp only[encE,List.append_toArray,List.cons_append,List.nil_append]
 change Calls Tryz.prog 40 #[.agg #[.int .i64 k,.string ⟨t.toArray⟩,.int .i64 m,.string ⟨a.toArray⟩,.string ⟨b.toArray⟩,.slice As subs.length cs,.slice Ad decls.length cd,.slice At tail.length ct,.int .i64 pos],.agg #[.int .i64 (file:Nat),.int .i64 pos,.string ⟨t.toArray⟩,.int .i64 x.1,.int .i64 x.2.1],yV4 x.2.2,.pointer (some ⟨bx,0,none⟩)] w _
 go_enter Tryz.func40,Tryz.ntmps40
 go_upto_region 1 with fail
 clear hw1
 obtain⟨e0,e1,e2,e3,e4,e5,e6,e7,e8⟩:=zZ6 B1.out
 obtain⟨u0,u1,u2,u3,u4⟩:=useC V1.out
 have hcl:=F1.out.st.cl
 obtain⟨Av,cv,hav⟩:=zV2 hcl.2
 have x0:=hcl.1.cell 0
 rw[hav] at x0
 have HRow:=Lib.hid (show w1.ownsRow 0 52 5 (.slice Av σ.x.2.length cv) σ.x.2.length (σ.x.2.flatMap encU) from hav▸hcl.2)
 have HBx:=Lib.hid hcl.1
 have HAv:=Lib.hid hav
 clear hcl hav
 have hbl:=HBu.out
 obtain⟨nl,hnl⟩:∃ nl,σ.x.2.length=nl:=⟨_,rfl⟩
 have HNl:=Lib.hid hnl
 rw[hnl] at x0 HRow hbl
 clear hnl
 go_upto_region 2 with (at_builtin;refine zQ4 rfl (.tmp 8) (.tmp 10) 27 rfl 0 52 5 48 elUse _ _ _ rfl (World.ownsRow.alloc HRow.out _) _ 1 _ _ rfl (by decide) (Src.lit _ 5 _ _ 1 rfl) (by simp[Value.oneCell']) (by simp only[maxLen];omega) (by omega) (Nat.zero_le _) ?_;intro v' w4 hown' hg' hb' hob';obtain⟨A4,c4,hv4⟩:=zV2 hown';subst hv4;have hBx:=bx_grown HRow.out HBx.out hg';have y0:=hBx.cell 0;have yf:=hBx.free 0;rw[HAv.out,HNl.out] at y0;have HG:=Lib.hid (show _∧(w1.alloc _).grownBy _ (Value.slice Av nl cv).ownBlock∧(Value.ownBlock _=(Value.slice Av nl cv).ownBlock∨_)∧_ from⟨hown',hg',hob',hBx⟩);clear hown' hg' hb' hob' hBx)
 clear e0 e1 e2 e3 e4 e5 e6 e7 e8 u0 u1 u2 u3 u4 x0 y0 yf
 have h1:=HG.out.1
 have hfin:=(F1.out.st).clo (q:=1) (x':=(Value.slice A4 (nl+1) c4,σ.x.2++ [yP5 t pos x file])) (N:=fun b=>b=bx∨σ.x.1.ownBlock=some b) (wy:=w4.setCell ⟨bx,0,none⟩ (.slice A4 (nl+1) c4)) ?hk ?hN ?hAt ?hM ?hct
 case hk=>
  exact((((Kp.refl (fun b=>b=bx∨σ.x.1.ownBlock=some b) w1).alloc _).grown HG.out.2.1 fun k hk=>.inl (.inr (by rw[HAv.out,HNl.out];exact hk))).setCell (p:=⟨bx,0,none⟩) (.inl rfl) _)
 case hN=>exact fun b hb=>hb
 case hAt=>
  refine⟨?_,?_⟩
  ·have h2:=HG.out.2.2.2.set_ 0 (.slice A4 (nl+1) c4)
   simpa using h2
  ·have h3:(σ.x.2++ [yP5 t pos x file]).length=nl+1:=by rw[List.length_append,HNl.out];rfl
   rw[h3,List.flatMap_append]
   refine zV5 (N:=(· = bx)) (by simpa[encU,yP5] using h1) ((Kp.refl (· = bx) _).setCell (p:=⟨bx,0,none⟩) rfl _) fun b hb e=>?_
   exact zS1 h1 HG.out.2.2.2 (by decide) b hb e.symm
 case hM=>
  rintro b (hb | hb)
  ·exact .inl (.inl hb)
  ·rcases HG.out.2.2.1 with e | e
   ·exact .inl (.inr (by rw[HAv.out,HNl.out,←e];exact hb))
   ·have h4:=(zR6 h1 b hb).2
    rw[e] at hb
    injection hb with hb
    simp only[World.size_alloc] at hb
    exact .inr ⟨by omega,by simpa[World.setCell] using h4⟩
 case hct=>show (σ.x.2++ [yP5 t pos x file]).length≤σ.x.2.length+1;simp
 obtain⟨T5,Q5,G5⟩:=hfin
 have F5:=Lib.hid (F1.out.step T5 Q5 G5)
 have N5:=Lib.hid (show Mine (zn R (cloU bx) {σ with x:=(Value.slice A4 (nl+1) c4,σ.x.2++ [yP5 t pos x file])} Im) _ (w.heap.size+2) from Q5.own M1.out.1)
 have E5:=Lib.hid (Q5.kp.blk B1.out M1.out.2.2.1)
 have Z5:=Lib.hid (Q5.kp.blk Z1.out M1.out.1.2.1)
 have O5:=Lib.hid ((zZ5 Q5.kp (fun q hq hm=>(F1.out.st.zo.mu q hm).2 hq) Q5.im).1 _ O1.out)
 clear T5 Q5 G5 h1 HG F1 B1 Z1 O1 V1 M1 HBx HRow
 generalize w4.setCell ⟨bx,0,none⟩ (.slice A4 (nl+1) c4)=w5 at F5 N5 E5 Z5 O5 ⊢
 obtain⟨e0,e1,e2,e3,e4,e5,e6,e7,e8⟩:=zZ6 E5.out
 obtain⟨y0,y1,y2,y3,y4,y5,y6,y7,y8⟩:=zZ6 Z5.out
 obtain⟨zf0,zf1,zf2,zf3,zf4,zf5,zf6,zf7,zf8⟩:=zK7 Z5.out
 go_wp2
 clear e0 e1 e2 e3 e4 e5 e6 e7 e8 y0 y1 y2 y3 y4 y5 y6 y7 y8 zf0 zf1 zf2 zf3 zf4 zf5 zf6 zf7 zf8
 obtain⟨F6,hB6,hK6⟩:=F5.out.store9 (by omega) N5.out Z5.out (.int .i64 k) (.string ⟨t.toArray⟩) (.int .i64 m) (.string ⟨a.toArray⟩) (.string ⟨b.toArray⟩) (.slice As subs.length cs) (.slice Ad decls.length cd) (.slice At tail.length ct) (.int .i64 pos)
 have hn5:∀ q,Im q→¬ q=w.heap.size+2:=fun q hq e=>N5.out.2.2 (e▸hq)
 have HR:=Lib.hid (show RetE R (cloU bx) n s σ Im w (fun σ' e'=>UU bx σ (.mk k t m a b As cs subs Ad cd decls At ct tail pos) x file σ' e') (.returned (.agg #[.int .i64 k,.string ⟨t.toArray⟩,.int .i64 m,.string ⟨a.toArray⟩,.string ⟨b.toArray⟩,.slice As subs.length cs,.slice Ad decls.length cd,.slice At tail.length ct,.int .i64 pos])) _ from⟨_,Im,.mk k t m a b As cs subs Ad cd decls At ct tail pos,rfl,⟨rfl,_,rfl⟩,F6.st,F6.sp,F6.gr,(zZ5 hK6 hn5 (fun _ h=>h)).1 _ O5.out⟩)
 obtain⟨z0,z1,z2,z3,z4,z5,z6,z7,z8⟩:=zZ6 hB6
 refine bodyPost_ret (v:=.agg #[.int .i64 k,.string ⟨t.toArray⟩,.int .i64 m,.string ⟨a.toArray⟩,.string ⟨b.toArray⟩,.slice As subs.length cs,.slice Ad decls.length cd,.slice At tail.length ct,.int .i64 pos]) ?_ rfl HR.out
 simp[results,Tryz.results40,go_sem,z0,z1,z2,z3,z4,z5,z6,z7,z8]
end
open Go.Sort
section
variable {α:Type}{lt:α→α→Bool}{ix:α→Nat}
def lexL (lt:α→α→Bool)(ix:α→Nat)(x y:α):Bool:=lt x y||(!lt y x&&decide (ix x < ix y))
theorem xZ8 (x y:α):lexL lt ix x y=true↔lt x y=true∨(lt y x=false∧ix x < ix y):=by simp[lexL]
theorem zS8 (x y:α):lexL lt ix x y=false↔lt x y=false∧(lt y x=true∨¬ ix x < ix y):=by
 unfold lexL
 cases lt x y <;> cases lt y x <;> simp
theorem yE6 {x y:α}(h:ix y < ix x):lt x y=lexL lt ix x y:=by
 unfold lexL
 have:decide (ix x < ix y)=false:=decide_eq_false (by omega)
 rw[this]
 simp
theorem lex_swo (hO:SWO lt):SWO (lexL lt ix) where
 irrefl x:=by rw[zS8];exact⟨hO.irrefl x,.inr (Nat.lt_irrefl _)⟩
 trans x y z h1 h2:=by
  rw[xZ8] at h1 h2 ⊢
  rcases h1 with h1 | ⟨h1,h1'⟩ <;> rcases h2 with h2 | ⟨h2,h2'⟩
  ·exact .inl (hO.trans _ _ _ h1 h2)
  ·left
   cases h:lt x z with
   | true=>rfl
   | false=>
     have:=hO.ntrans _ _ _ h h2
     rw[h1] at this
     cases this
  ·left
   cases h:lt x z with
   | true=>rfl
   | false=>
     have:=hO.ntrans _ _ _ h1 h
     rw[h2] at this
     cases this
  ·exact .inr ⟨hO.ntrans _ _ _ h2 h1,by omega⟩
 ntrans x y z h1 h2:=by
  rw[zS8] at h1 h2 ⊢
  refine⟨hO.ntrans _ _ _ h1.1 h2.1,?_⟩
  cases h:lt z x with
  | true=>exact .inl rfl
  | false=>
    right
    rcases h1.2 with h3 | h3
    ·have:=hO.ntrans _ _ _ h2.1 h
     rw[h3] at this
     cases this
    ·rcases h2.2 with h4 | h4
     ·have:=hO.ntrans _ _ _ h h1.1
      rw[h4] at this
      cases this
     ·omega
end
section
variable {α:Type} [Inhabited α] {lt lt2:α→α→Bool}{ix:α→Nat}
theorem zK0 (hc:∀ x y,ix y < ix x→lt x y=lt2 x y)(a:Nat):∀ (j:Nat)(d:Array α),j < d.size→(∀ y,a≤y→y < j→ix d[y]! < ix d[j]!)→insInner lt a j d=insInner lt2 a j d
 | 0,d,_,_=>by unfold insInner;rfl
 | j+1,d,hj,h=>by
   unfold insInner
   by_cases ha:j+1 > a
   ·have e:=hc _ _ (h j (by omega) (by omega))
    rw[e]
    have hr:insInner lt a j (swp d (j+1) j)=insInner lt2 a j (swp d (j+1) j):=zK0 hc a j _ (by rw[size_swp];omega) fun y h1 h2=>by
     rw[swp_other _ _ _ _ (by omega) (by omega),swp_right _ _ _ (by omega)]
     exact h y h1 (by omega)
    rw[hr]
   ·have:decide (j+1 > a)=false:=decide_eq_false ha
    rw[this]
    simp
theorem zM4 (a i:Nat):∀ (j:Nat)(d:Array α),a≤j→j≤i→i < d.size→PermIn a (i+1) d (insInner lt a j d)
 | 0,d,_,_,_=>by unfold insInner;exact permIn_refl _ _ _
 | j+1,d,haj,hji,hi=>by
   unfold insInner
   split
   ·rename_i h
    have ha:a≤j:=by
     simp only[Bool.and_eq_true,decide_eq_true_eq] at h
     omega
    exact permIn_trans _ _ _ _ _ (swp_permIn _ _ _ _ _ (by omega) (by omega) (by omega) (by omega) (by omega)) (zM4 a i j _ ha (by omega) (by rw[size_swp];exact hi))
   ·exact permIn_refl _ _ _
theorem zK1 (hc:∀ x y,ix y < ix x→lt x y=lt2 x y)(a b:Nat):∀ (n i:Nat)(d:Array α),b-i=n→a≤i→b≤d.size→(∀ y z,a≤y→y < i→i≤z→z < b→ix d[y]! < ix d[z]!)→(∀ z z',i≤z→z < z'→z' < b→ix d[z]! < ix d[z']!)→insOuter lt a b i d=insOuter lt2 a b i d
 | 0,i,d,hn,_,_,_,_=>by
   rw[insOuter,insOuter.eq_def lt2,if_neg (by omega),if_neg (by omega)]
 | n+1,i,d,hn,hai,hb,h1,h2=>by
   rw[insOuter,insOuter.eq_def lt2,if_pos (by omega),if_pos (by omega)]
   have e:=zK0 hc a i d (by omega) fun y q1 q2=>h1 y i q1 q2 (Nat.le_refl _) (by omega)
   rw[e]
   have hp:PermIn a (i+1) d (insInner lt2 a i d):=zM4 a i i d hai (Nat.le_refl _) (by omega)
   have hlow:=permIn_all d (insInner lt2 a i d) a (i+1) (fun x=>∀ z,i+1≤z→z < b→ix x < ix d[z]!) (by omega) hp (fun y q1 q2 z q3 q4=>by
    by_cases hy:y < i
    ·exact h1 y z q1 hy (by omega) q4
    ·have:y=i:=by omega
     subst this
     exact h2 y z (Nat.le_refl _) (by omega) q4)
   refine zK1 hc a b n (i+1) _ (by omega) (by omega) (by rw[hp.1];exact hb) (fun y z q1 q2 q3 q4=>?_) (fun z z' q1 q2 q3=>?_)
   ·rw[hp.2.1 z (by omega)]
    exact hlow y q1 q2 z q3 q4
   ·rw[hp.2.1 z (by omega),hp.2.1 z' (by omega)]
    exact h2 z z' (by omega) q2 q3
theorem zJ0 (hc:∀ x y,ix y < ix x→lt x y=lt2 x y)(d:Array α)(a b:Nat)(hb:b≤d.size)(h:∀ z z',a≤z→z < z'→z' < b→ix d[z]! < ix d[z']!):Sort.insertionSort lt d a b=Sort.insertionSort lt2 d a b:=by
 unfold Sort.insertionSort
 by_cases hab:a < b
 ·exact zK1 hc a b _ (a+1) d rfl (by omega) hb (fun y z q1 q2 q3 q4=>h y z q1 (by omega) q4) (fun z z' q1 q2 q3=>h z z' (by omega) q2 q3)
 ·rw[insOuter,insOuter.eq_def lt2,if_neg (by omega),if_neg (by omega)]
def Cr (ix:α→Nat)(d:Array α)(a m b:Nat):Prop:=∀ i j,a≤i→i < m→m≤j→j < b→ix d[i]! < ix d[j]!
theorem Cr.kept {d d':Array α}{a m b x y:Nat}(h:Cr ix d a m b)(p:PermIn x y d d')(hn:y≤a∨b≤x):Cr ix d' a m b:=fun i j h1 h2 h3 h4=>by
 rw[p.2.1 i (by omega),p.2.1 j (by omega)]
 exact h i j h1 h2 h3 h4
def Sep (ix:α→Nat)(n:Nat)(d:Array α)(p:Nat):Prop:=∀ i j,i < p→p≤j→j < n→ix d[i]! < ix d[j]!
theorem Sep.cr {d:Array α}{n a m b:Nat}(h:Sep ix n d m)(hb:b≤n):Cr ix d a m b:=fun i j _ h2 h3 h4=>h i j h2 h3 (by omega)
theorem Sep.kept {d d':Array α}{n p x y:Nat}(h:Sep ix n d p)(hn:n≤d.size)(hy:y≤n)(q:PermIn x y d d')(hp:p≤x∨y≤p):Sep ix n d' p:=by
 intro i j h1 h2 h3
 rcases hp with hp | hp
 ·rw[q.2.1 i (by omega)]
  by_cases hj:x≤j∧j < y
  ·exact permIn_all d d' x y (fun z=>ix d[i]! < ix z) (by omega) q (fun k k1 k2=>h i k h1 (by omega) (by omega)) j hj.1 hj.2
  ·rw[q.2.1 j (by omega)]
   exact h i j h1 h2 h3
 ·rw[q.2.1 j (by omega)]
  by_cases hi:x≤i∧i < y
  ·exact permIn_all d d' x y (fun z=>ix z < ix d[j]!) (by omega) q (fun k k1 k2=>h k j (by omega) h2 h3) i hi.1 hi.2
  ·rw[q.2.1 i (by omega)]
   exact h i j h1 h2 h3
end
open Go.Shelf
abbrev UG:=Us × Nat
def ucmp (a b:Us):Int:=if a.pos < b.pos then -1 else if a.pos > b.pos then 1 else 0
theorem yU6 (a b:Us):ltOf ucmp a b=decide (a.pos < b.pos):=by
 unfold ltOf ucmp
 by_cases h:a.pos < b.pos
 ·simp[h]
 ·by_cases h2:a.pos > b.pos
  ·simp[h,h2]
  ·simp[h,h2]
theorem ult_swo:SWO (ltOf ucmp) where
 irrefl x:=by rw[yU6];simp
 trans x y z h1 h2:=by rw[yU6] at *;simp at *;omega
 ntrans x y z h1 h2:=by rw[yU6] at *;simp at *;omega
theorem yP6 (x:Us):∀ v∈encU x,v.oneCell'=true:=by
 intro v hv
 simp only[encU,List.mem_cons,List.not_mem_nil,or_false] at hv
 rcases hv with rfl | rfl | rfl | rfl | rfl <;> rfl
def encG (x:UG):List Value:=encU x.1
theorem yU7 (x:UG):(encG x).length=5:=rfl
theorem xZ9 (x:UG):∀ v∈encG x,v.oneCell'=true:=yP6 x.1
def cfG (x y:UG):Int:=ucmp x.1 y.1
def ixG (x:UG):Nat:=x.2
theorem xY0:SWO (ltOf cfG):=⟨fun x=>ult_swo.irrefl x.1,fun x y z=>ult_swo.trans x.1 y.1 z.1,fun x y z=>ult_swo.ntrans x.1 y.1 z.1⟩
def ltG:UG→UG→Bool:=lexL (ltOf cfG) ixG
theorem yU8:SWO ltG:=lex_swo xY0
theorem zC5 {x y:UG}(h:ixG y < ixG x):ltG x y=decide (cfG x y < 0):=(yE6 h).symm
theorem ltG_t {x y:UG}(h:ixG y < ixG x)(hv:cfG x y < 0):ltG x y=true:=by rw[zC5 h];exact decide_eq_true hv
theorem ltG_f {x y:UG}(h:ixG y < ixG x)(hv:¬ cfG x y < 0):ltG x y=false:=by rw[zC5 h];exact decide_eq_false hv
instance:Inhabited Us:=⟨⟨0,0,[],0,0⟩⟩
theorem Acc.addr {w:World}{base e size n c:Nat}{A:Option Addr}{xs:List Value}(h:Acc w base e size (.slice A n c) n xs):(A=none∧n=0∧c=0)∨∃ g off,A=some ⟨g,off,none⟩∧n≤c:=by
 rcases h with h | ⟨_,g,off,e,_⟩
 ·rcases h.2 with ⟨e,h0⟩ | ⟨g,cap,cur,e,_,_,hn,_⟩
  ·injection e with e1 e2 e3
   exact .inl ⟨e1,h0,e3⟩
  ·injection e with e1 e2 e3
   exact .inr ⟨g,0,e1,by omega⟩
 ·injection e with e1 e2 e3
  exact .inr ⟨g,off,e1,by omega⟩
theorem Acc.cap {w:World}{base e size n c:Nat}{A:Option Addr}{xs:List Value}(h:Acc w base e size (.slice A n c) n xs):n≤c:=by
 rcases h.addr with ⟨_,rfl,rfl⟩ | ⟨g,off,_,h⟩
 ·exact Nat.le_refl _
 ·exact h
theorem _root_.Go.RowKit.Below.drewN {B:Nat}{a w:World}(h:Below B a w)(n:Nat):Below B a (w.drewN n):=⟨h.os,h.tape,h.output,h.size,h.block⟩
theorem Acc.less {w:World}{base base' e size n:Nat}{v:Value}{xs:List Value}(h:Acc w base e size v n xs)(hb:base'≤base):Acc w base' e size v n xs:=by
 rcases h with h | h
 ·refine .inl ⟨h.1,?_⟩
  rcases h.2 with h | ⟨g,cap,cur,h1,h2,h3⟩
  ·exact .inl h
  ·exact .inr ⟨g,cap,cur,h1,Nat.le_trans hb h2,h3⟩
 ·exact .inr h
theorem Sl.take {α:Type}{w:World}{B k:Nat}{enc:α→List Value}{A:Option Addr}{l:List α}(h:Sl w B k enc A l)(n:Nat):Sl w B k enc A (l.take n):=by
 rcases h with rfl | ⟨b,off,e,hb,hc⟩
 ·exact .inl (by simp)
 ·refine .inr ⟨b,off,e,hb,fun i hi j v hv=>?_⟩
  simp at hi
  exact hc i (by omega) j v (by simpa using hv)
def cutA (A:Option Addr)(c a size:Nat):Option Addr:=if c=a then A else A.map (·.add (a*size))
theorem Sl.drop {α:Type}{w:World}{B k:Nat}{enc:α→List Value}{A:Option Addr}{l:List α}(h:Sl w B k enc A l)(c n:Nat)(hc:l.length≤c):Sl w B k enc (cutA A c n k) (l.drop n):=by
 rcases h with rfl | ⟨b,off,rfl,hb,hcs⟩
 ·exact .inl (by simp)
 ·unfold cutA
  split
  ·subst c
   exact .inl (by simpa using hc)
  ·refine .inr ⟨b,off+n*k,by simp[Addr.add],hb,fun i hi j v hv=>?_⟩
   simp at hi
   have:=hcs (n+i) (by omega) j v (by simpa using hv)
   rw[Nat.add_mul,←Nat.add_assoc] at this
   exact this
section
variable {P:Program}{t e size bytes:Nat}
end
theorem zU7 {w w':World}(h:BelowD w.heap.size w w'):∃ q os',w'=grow (w.drewN q) os':=by
 obtain⟨p,rfl⟩:=regrown_of_below h.toBelow
 have hd:w.drawn≤p.d:=h.drawn
 refine⟨p.d-w.drawn,p.os,?_⟩
 have e:redrawn w p.d=w.drewN (p.d-w.drawn):=by
  unfold redrawn World.drewN
  congr 1
  omega
 rw[e]
section
variable {α:Type} [Inhabited α] {enc:α→List Value}{k:Nat}
theorem yE7 {β:Type} [Inhabited β] {l:List β}{i:Nat}{v:β}(h:l[i]? = some v):l[i]! = v:=by simp[h]
theorem zK2 (hk:∀ x,(enc x).length=k){w:World}{base:Nat}{e:TypeId}{v:Value}{l:List α}(h:w.ownsRow base e k v l.length (l.flatMap enc))(hv:v≠.slice none 0 0) :
  ∃ g cap,v=.slice (some ⟨g,0,none⟩) l.length cap∧base≤g∧g < w.heap.size∧HoldsK enc k w g 0 l.toArray:=by
 have hw:=h
 rcases h.2 with ⟨rfl,_⟩ | ⟨g,cap,cur,rfl,hbase,hh,_⟩
 ·exact absurd rfl hv
 ·have hlt:g < w.heap.size:=by
   rcases Nat.lt_or_ge g w.heap.size with hlt | hge
   ·exact hlt
   ·rw[Array.getElem?_eq_none hge] at hh;cases hh
  refine⟨g,cap,rfl,hbase,hlt,fun j hj=>?_⟩
  simp only[size_flatK,List.size_toArray] at hj
  refine⟨?_,by simp[World.frozen?,hh]⟩
  obtain⟨h1,h2,h3⟩:=yZ4 hj
  rw[Nat.zero_add,hw.cellAt j hj,get_flatK _ _ _ _ (by simpa using hj)]
  have hi:j % k < (enc l[j / k]).length:=by rw[hk];exact h2
  have e1:(l.flatMap enc)[j]? = (enc l[j / k])[j % k]?:=by
   have:=zH7 hk l _ h1 _ h2
   rwa [←h3] at this
  rw[e1]
  simp[h1,hi]
theorem zF5 (hk:∀ x,(enc x).length=k){w:World}{blk off:Nat}{l:List α}(h:HoldsK enc k w blk off l.toArray)(hb:blk < w.heap.size):Sl w w.heap.size k enc (some ⟨blk,off,none⟩) l:=by
 refine .inr ⟨blk,off,rfl,hb,fun i hi j v hv=>?_⟩
 have hj:j < k:=by rw[←hk l[i]];exact(List.getElem?_eq_some_iff.1 hv).1
 have:=(h.cell (i:=i) (c:=j) (by simpa using hi) hj).1
 rw[this]
 congr 1
 have e:(l.toArray)[i]! = l[i]:=by simp[hi]
 rw[e]
 exact yE7 hv
theorem zE0 {w:World}{base blk off m:Nat}{dk:Array α}{os:Array Obj}(h1:base≤blk)(h2:blk < w.heap.size):Below base w (sortWorldK enc k w blk off m dk os):=by
 refine⟨rfl,rfl,rfl,size_sortWorldK_c enc k w blk off m dk os,fun i hi=>?_⟩
 unfold sortWorldK
 rw[heap_grow_old _ _ (by rw[size_putRowK];show i < w.heap.size;omega)]
 unfold putRowK putRow mapBlock
 simp only[Array.getElem?_modify]
 rw[if_neg (by omega)]
 rfl
end
theorem swo_of {β:Type}{lt:β→β→Bool}(h1:∀ x,lt x x=false)(h2:∀ x y z,lt x y=true→lt y z=true→lt x z=true)(h3:∀ x y,lt x y=false→lt y x=false→x=y):SWO lt where
 irrefl:=h1
 trans:=h2
 ntrans x y z a b:=by
  cases hyx:lt y x
  ·rw[h3 x y a hyx];exact b
  ·cases hxz:lt x z
   ·rfl
   ·have:=h2 y x z hyx hxz
    rw[b] at this;cases this
section
variable {α:Type}{lt:α→α→Bool}
def leOf (lt:α→α→Bool)(a b:α):Prop:=lt b a=false
theorem le_of_lt (hO:SWO lt){a b:α}(h:lt a b=true):leOf lt a b:=by
 unfold leOf
 cases hb:lt b a
 ·rfl
 ·have:=hO.trans a b a h hb
  rw[hO.irrefl] at this;cases this
theorem xY1 (hO:SWO lt)(hT:∀ x y,lt x y=false→lt y x=false→x=y)(P l:List α)(hs:P.Pairwise (leOf lt))(hp:P.Perm l):P=l.mergeSort fun x y=>!lt y x:=by
 have htr:∀ a b c:α,(!lt b a)=true→(!lt c b)=true→(!lt c a)=true:=fun a b c h1 h2=>by
  simp at *;exact hO.ntrans c b a h2 h1
 have hto:∀ a b:α,((!lt b a)||(!lt a b))=true:=fun a b=>by
  cases hab:lt a b
  ·simp
  ·have:=le_of_lt hO hab
   unfold leOf at this
   simp[this]
 have h2:=List.pairwise_mergeSort htr hto l
 refine List.Perm.eq_of_pairwise (le:=leOf lt) (fun a b _ _ h1 h2=>(hT a b h2 h1)) hs (h2.imp (fun h=>by simpa[leOf] using h)) (hp.trans (List.mergeSort_perm l _).symm)
end
section
variable {α:Type}
theorem zK3 [Inhabited α] {l:List α}{d':Array α}(h:PermIn 0 l.toArray.size l.toArray d'):d'.toList.Perm l:=by
 obtain⟨hsz,_,hperm⟩:=h
 have e1:d'.extract 0 l.toArray.size=d':=by rw[←hsz];exact Array.extract_size
 rw[e1,Array.extract_size] at hperm
 simpa using hperm
theorem zR7 [Inhabited α] {lt:α→α→Bool}{n:Nat}{d':Array α}(h:SortedIn lt 0 n d')(hn:d'.size=n):d'.toList.Pairwise (leOf lt):=by
 rw[List.pairwise_iff_getElem]
 intro i j hi hj hij
 have hi':i < d'.size:=by simpa using hi
 have hj':j < d'.size:=by simpa using hj
 have:=h i j (Nat.zero_le _) hij (by omega)
 rw[getElem!_pos d' j hj',getElem!_pos d' i hi'] at this
 simpa[leOf] using this
def NewRowK (w:World)(base e k:Nat)(enc:α→List Value)(v:Value)(l:List α):Prop:=
 (l=[]∧∃ A c,v=.slice A 0 c)∨(v≠.slice none 0 0∧w.ownsRow base e k v l.length (l.flatMap enc))
theorem NewRowK.slice {w:World}{base e k:Nat}{enc:α→List Value}{v:Value}{l:List α}(h:NewRowK w base e k enc v l):∃ A c,v=.slice A l.length c∧l.length≤c:=by
 rcases h with ⟨rfl,A,c,rfl⟩ | ⟨_,h⟩
 ·exact⟨A,c,rfl,Nat.zero_le _⟩
 ·obtain⟨A,c,rfl⟩:=Acc.shape (.inl h)
  exact⟨A,c,rfl,Acc.cap (.inl h)⟩
theorem NewRowK.of_owns {w:World}{base e k:Nat}{enc:α→List Value}{v:Value}{l:List α}(h:w.ownsRow base e k v l.length (l.flatMap enc)):NewRowK w base e k enc v l:=by
 by_cases hv:v=.slice none 0 0
 ·subst hv
  rcases h.2 with ⟨_,h0⟩ | ⟨g,cap,cur,h,_⟩
  ·exact .inl ⟨List.eq_nil_of_length_eq_zero h0,_,_,rfl⟩
  ·cases h
 ·exact .inr ⟨hv,h⟩
def yJ8 (w:World)(base k:Nat)(enc:α→List Value)(lt:α→α→Bool)(v:Value)(l:List α)(e:Ending)(w':World):Prop:=
 e=.returned (.tuple #[])∧(∃ A c l',v=.slice A l.length c∧l.length≤c∧l'.Perm l∧l'.Pairwise (leOf lt)∧Sl w' w'.heap.size k enc A l')∧Below base w w'
variable {P:Program}{ρ:Ren}
theorem xY2 [Inhabited α] (L:SlLaysF0.n6 P ρ)(k e0:Nat)(aE:∀ w,(isAgg (ρ.t 24)).run P w=.ok true w)(zE:∀ w,(Go.sizeOf (ρ.t 24)).run P w=.ok k w)(enc:α→List Value)(hk:∀ x,(enc x).length=k)(h1:∀ x,∀ v∈enc x,v.oneCell'=true)
  (cf:α→α→Int)(hO:SWO (ltOf cf))(g:Nat)(eg:∀ args w,(callFunc g args).run P w=.ok (.enter g args) w)
  (hcmp:∀ x y W,Calls P g #[.agg (enc x).toArray,.agg (enc y).toArray] W fun e w'=>e=.returned (.int .i64 (cf x y))∧BelowD W.heap.size W w')
  (Ln:∀ (p:Option Addr)(cap:Nat)(fv:Value)(w:World),Calls P (ρ.f 6) #[.slice p 0 cap,fv] w fun e w'=>e=.returned (.tuple #[])∧w=w')
  (v:Value)(l:List α)(w:World)(base:Nat)(h:NewRowK w base e0 k enc v l)(hl:l.length≤1099511627776) :
  Calls P (ρ.f 6) #[v,.func (.func g) #[] #[]] w (yJ8 w base k enc (ltOf cf) v l):=by
 rcases h with ⟨rfl,A,c,rfl⟩ | ⟨hv,h⟩
 ·refine(Ln A c _ w).mono ?_
  rintro e w' ⟨rfl,rfl⟩
  exact⟨rfl,⟨A,c,[],rfl,Nat.zero_le _,List.Perm.refl _,List.Pairwise.nil,.inl rfl⟩,Below.refl _ _⟩
 ·have hcap:∀ A n c,v=.slice A n c→l.length≤c:=by
   rcases h.2 with ⟨rfl,_⟩ | ⟨g,cap,cur,rfl,_,_,hc,_⟩
   ·exact absurd rfl hv
   ·intro A n c e
    injection e with _ _ e3
    omega
  obtain⟨g',cap,rfl,hbase,hlt,hH⟩:=zK2 hk h hv
  refine(AnyQ.slices_SortFunc L k aE zE enc hk h1 cf hO g #[] g' 0 cap l.toArray w eg (fun m os dk _ x y=>(hcmp x y _).mono fun e w' ⟨h1,h2⟩=>⟨h1,zU7 h2⟩) hH hlt (by simp;omega)).mono ?_
  rintro e w' ⟨rfl,d',n,os,hp,hs,rfl⟩
  have hsz:d'.size=l.length:=by simpa using hp.1
  refine⟨rfl,⟨_,_,d'.toList,rfl,hcap _ _ _ rfl,zK3 hp,zR7 hs (by simpa using hsz),?_⟩,zE0 hbase hlt⟩
  refine zF5 hk (l:=d'.toList) (by have:=holdsK_sortWorldK_c enc k w g' 0 l.toArray d' n os hH hlt (by simpa using hsz);simpa using this) ?_
  exact Nat.lt_of_lt_of_le hlt (size_sortWorldK_c enc k w g' 0 n _ os)
end
end Go.Proofs.YtdgehhgjgifikaaGreatDoor
