/- What the claim needs of:ZH SG SU Mem3 Sort SM SW. -/
import Derived.Test.YtdgehhgjgifikaaGreatDoorK19
import Derived.Shelf.SlSortCmp.KitK
import Derived.Test.YtdgehhgjgifikaaGreatDoorK11
import Derived.Test.YtdgehhgjgifikaaGreatDoorK1
import Derived.Shelf.SlSortCmp.WholeK
import Derived.Shelf.SlSortCmp.PdqK
import Derived.Lib.QuietBelow
import Derived.Deep.LoopGhost
namespace Go.Proofs.YtdgehhgjgifikaaGreatDoor
open Go.RowKit
section
variable {X:Type}{R:RF}{C:Clo X}{n s q:Nat}{σ:GS X}{Im:Nat→Prop}{wx wy:World}
theorem St.clo (h:St R C n (s+q) σ Im wx){x':X}{N:Nat→Prop}(hk:Kp N wx wy)(hN:∀ b,N b→C.M σ.x b)(hAt:C.At x' wy)(hM:∀ b,C.M x' b→C.M σ.x b∨(wx.heap.size≤b∧b < wy.heap.size))(hct:C.ct x'≤C.ct σ.x+q) :
  St R C n s {σ with x:=x'} Im wy∧Sp (zn R C σ Im) wx (zn R C {σ with x:=x'} Im) wy∧Gr wx σ {σ with x:=x'}:=by
 have hs:=hk.size;have hNM:∀ b,N b→(zn R C σ Im).Mut b:=fun b hb=>.inr (.inr (.inr (.inr (hN b hb))));have hiN:∀ b,Im b→¬ N b:=fun b hb hn=>(h.zo.mu b (hNM b hn)).2 hb;have hcm:∀ b,N b→b≠R.r∧b∉R.uB∧(∀ o∈σ.ρ.objs,o.blk≠b)∧σ.av.ownBlock≠some b:=fun b hb=>h.cm b (hN b hb);have hmu:∀ b,(zn R C {σ with x:=x'} Im).Mut b→(zn R C σ Im).Mut b∨(wx.heap.size≤b∧b < wy.heap.size):=fun b hb=>by
  rcases hb with h1 | h1 | h1 | h1 | h1
  ·exact .inl (.inl h1)
  ·exact .inl (.inr (.inl h1))
  ·exact .inl (.inr (.inr (.inl h1)))
  ·exact .inl (.inr (.inr (.inr (.inl h1))))
  ·exact(hM b h1).imp_left fun h2=>.inr (.inr (.inr (.inr h2)))
 have hok:(zn R C {σ with x:=x'} Im).Ok wy:=⟨fun b hb=>by
  rcases hmu b hb with h1 | ⟨h1,h2⟩
  ·exact⟨Nat.lt_of_lt_of_le (h.zo.mu b h1).1 hs,(h.zo.mu b h1).2⟩
  ·exact⟨h2,fun hi=>by have:=h.zo.im b hi;omega⟩,fun b hb=>Nat.lt_of_lt_of_le (h.zo.im b hb) hs⟩
 refine⟨⟨⟨hk.blk h.rs.rc fun e=>(hcm _ e).1 rfl,Nat.lt_of_lt_of_le h.rs.rl hs,(h.rs.mp.keptA hk (imN h.im.1 hiN) (imN h.im.2.1 hiN) (fun b hb=>hiN b (h.im.2.2 b hb)) (fun b hb hn=>(hcm b hn).2.1 hb)).more hs,(h.rs.ob.kept hk fun o ho hn=>(hcm _ hn).2.2.1 o ho rfl).more hs⟩,
  zU4 h.al hk (fun b hb hn=>(hcm b hn).2.2.2 hb),hAt,hok,fun b hb=>?_,h.am,h.im,fun o ho=>(h.lo o ho).kept hk hiN (fun _ h=>h),?_,by have:=h.lv;show wObs σ.ρ.objs+s≤n;omega⟩,⟨hk.mono hNM,fun b hb=>(hmu b hb).imp_right (·.1),fun _ h=>h,fun _ h=>.inl h,hok⟩,⟨fun o ho=>⟨o,ho,rfl⟩,fun _ _=>rfl⟩⟩
 ·rcases hM b hb with h1 | ⟨h1,_⟩
  ·exact h.cm b h1
  ·refine⟨fun e=>?_,fun hu=>?_,fun o ho e=>?_,fun ha=>?_⟩
   ·have:=h.rs.rl;omega
   ·have:=h.rs.mp.uB b hu;omega
   ·have:=h.rs.ob.lt o ho;omega
   ·have:=(zR9 h.al b ha).2;omega
 ·have:=h.bu;show C.ct x'+(σ.ρ.all.length+wObs σ.ρ.objs+s)≤_;omega
end
def encU (u:Us):List Value:=[.int .i64 u.file,.int .i64 u.pos,.string ⟨u.name.toArray⟩,.int .i64 u.kind,.int .i64 u.depth]
theorem yS7 (u:Us):(encU u).length=5:=rfl
theorem elUse:ElT Tryz.prog 27 52 5 48:=ElT.mk_ (z:=.agg #[.int .i64 0,.int .i64 0,.string ByteArray.empty,.int .i64 0,.int .i64 0]) Tryz.underlying27 qF qF (by decide)
def cloU (bx:Nat):Clo (Value × List Us) where
 M x b:=b=bx∨x.1.ownBlock=some b
 At x w:=Blk w bx 27 #[x.1]∧w.ownsRow 0 52 5 x.1 x.2.length (x.2.flatMap encU)
 keep h hk hM:=⟨hk.blk h.1 (hM _ (.inl rfl)),zU4 h.2 hk fun b hb=>hM b (.inr hb)⟩
 ct x:=x.2.length
def yN5 (t:Tx)(pos:Int)(x:Int × Int × Option Nat)(file:Nat):Us:=⟨file,pos,t,x.1,x.2.1⟩
def UU (_bx:Nat):UseR (Value × List Us):=fun σ e x file σ' e'=>e'=e∧∃ v',σ'= {σ with x:=(v',σ.x.2++ [match e with | .mk _ t _ _ _ _ _ _ _ _ _ _ _ _ pos=>yN5 t pos x file])}
theorem bx_grown {w wy:World}{o:Obj}{base e size n g:Nat}{v:Value}{xs:List Value}{ty:TypeId}{cs:Array Value}(h:w.ownsRow base e size v n xs)(hb:Blk w g ty cs)(hg:(w.alloc o).grownBy wy v.ownBlock)(hne:ty≠e:=by decide):Blk wy g ty cs:=
 (((Kp.refl (fun b=>v.ownBlock=some b) w).alloc o).grown hg fun _ hk=>.inl hk).blk hb (fun e=>zQ6 h hb hne _ e rfl)
section
variable {R:RF}{n bx:Nat}
set_option maxRecDepth 100000 in
set_option maxHeartbeats 4000000 in
theorem cloOkU:yT9 R (cloU bx) n (UU bx) 40 #[.pointer (some ⟨bx,0,none⟩)]:=by
 intro σ Im w s k t m a b As cs subs Ad cd decls At ct tail pos x file hS hOk hx hf hkd;clear hkd;obtain⟨w1,hw1⟩:∃ w1,(((w.alloc (.cells #[.int .i64 k,.string ⟨t.toArray⟩,.int .i64 m,.string ⟨a.toArray⟩,.string ⟨b.toArray⟩,.slice As subs.length cs,.slice Ad decls.length cd,.slice At tail.length ct,.int .i64 pos] 67)).alloc (.cells #[.int .i64 (file:Nat),.int .i64 pos,.string ⟨t.toArray⟩,.int .i64 x.1,.int .i64 x.2.1] 52)).alloc (.cells #[.int .i64 0,.string ⟨#[]⟩,.int .i64 0,.string ⟨#[]⟩,.string ⟨#[]⟩,.slice none 0 0,.slice none 0 0,.slice none 0 0,.int .i64 0] 67))=w1:=⟨_,rfl⟩;have hb1:Below w.heap.size w w1:=by rw[←hw1];exact((((Below.refl w.heap.size w).alloc qJ _).alloc (by simp) _).alloc (by simp;omega) _)
 have hz1:w1.heap.size=w.heap.size+1+1+1:=by rw[←hw1];simp
 have F1:=qK ((Fr.start hS).below hb1);have M1:=qK (show Mine (zn R (cloU bx) σ Im) w1 (w.heap.size+2)∧Mine (zn R (cloU bx) σ Im) w1 w.heap.size from⟨hS.zo.new_ qG qG,hS.zo.new_ qG qG⟩);have B1:=qK (show Blk w1 w.heap.size 67 #[.int .i64 k,.string ⟨t.toArray⟩,.int .i64 m,.string ⟨a.toArray⟩,.string ⟨b.toArray⟩,.slice As subs.length cs,.slice Ad decls.length cd,.slice At tail.length ct,.int .i64 pos] from by rw[←hw1];exact((Blk.new w _ _).alloc _).alloc _);have V1:=qK (show Blk w1 (w.heap.size+1) 52 #[.int .i64 (file:Nat),.int .i64 pos,.string ⟨t.toArray⟩,.int .i64 x.1,.int .i64 x.2.1] from by
  rw[←hw1];have:=Blk.new (w.alloc (.cells #[.int .i64 k,.string ⟨t.toArray⟩,.int .i64 m,.string ⟨a.toArray⟩,.string ⟨b.toArray⟩,.slice As subs.length cs,.slice Ad decls.length cd,.slice At tail.length ct,.int .i64 pos] 67)) 52 #[.int .i64 (file:Nat),.int .i64 pos,.string ⟨t.toArray⟩,.int .i64 x.1,.int .i64 x.2.1];rw[World.size_alloc] at this;exact this.alloc _)
 have Z1:=qK (show Blk w1 (w.heap.size+2) 67 #[.int .i64 0,.string ⟨#[]⟩,.int .i64 0,.string ⟨#[]⟩,.string ⟨#[]⟩,.slice none 0 0,.slice none 0 0,.slice none 0 0,.int .i64 0] from by
  rw[←hw1];have:=Blk.new ((w.alloc (.cells #[.int .i64 k,.string ⟨t.toArray⟩,.int .i64 m,.string ⟨a.toArray⟩,.string ⟨b.toArray⟩,.slice As subs.length cs,.slice Ad decls.length cd,.slice At tail.length ct,.int .i64 pos] 67)).alloc (.cells #[.int .i64 (file:Nat),.int .i64 pos,.string ⟨t.toArray⟩,.int .i64 x.1,.int .i64 x.2.1] 52)) 67 #[.int .i64 0,.string ⟨#[]⟩,.int .i64 0,.string ⟨#[]⟩,.string ⟨#[]⟩,.slice none 0 0,.slice none 0 0,.slice none 0 0,.int .i64 0];rw[World.size_alloc,World.size_alloc] at this;exact this)
 have O1:=qK ((zZ2 (Kp.ofBelow hb1 (fun _=>False)) (fun _ _ h=>h) (fun _ h=>h)).1 _ hOk);have hbu:=hS.bu;have hct:(cloU bx).ct σ.x=σ.x.2.length:=rfl;rw[hct] at hbu;have HBu:=qK (show σ.x.2.length≤1099511627776 from by omega);have HZ1:=qK hz1;clear hS hOk hf hb1 hbu hct hz1;simp only[encE,List.append_toArray,List.cons_append,List.nil_append];change Calls Tryz.prog 40 #[.agg #[.int .i64 k,.string ⟨t.toArray⟩,.int .i64 m,.string ⟨a.toArray⟩,.string ⟨b.toArray⟩,.slice As subs.length cs,.slice Ad decls.length cd,.slice At tail.length ct,.int .i64 pos],.agg #[.int .i64 (file:Nat),.int .i64 pos,.string ⟨t.toArray⟩,.int .i64 x.1,.int .i64 x.2.1],yT6 x.2.2,.pointer (some ⟨bx,0,none⟩)] w _;go_enter Tryz.func40,Tryz.ntmps40
 go_upto_region 1 with fail
 clear hw1;obtain⟨e0,e1,e2,e3,e4,e5,e6,e7,e8⟩:=zZ6 B1.out;obtain⟨u0,u1,u2,u3,u4⟩:=useC V1.out;have hcl:=F1.out.st.cl;obtain⟨Av,cv,hav⟩:=zU6 hcl.2;have x0:=hcl.1.cell 0;rw[hav] at x0;have HRow:=qK (show w1.ownsRow 0 52 5 (.slice Av σ.x.2.length cv) σ.x.2.length (σ.x.2.flatMap encU) from hav▸hcl.2);have HBx:=qK hcl.1;have HAv:=qK hav;clear hcl hav;have hbl:=HBu.out;obtain⟨nl,hnl⟩:∃ nl,σ.x.2.length=nl:=⟨_,rfl⟩;have HNl:=qK hnl;rw[hnl] at x0 HRow hbl;clear hnl;go_upto_region 2 with (at_builtin;refine zN5 rfl (.tmp 8) (.tmp 10) 27 rfl 0 52 5 48 elUse _ _ _ rfl (World.ownsRow.alloc HRow.out _) _ 1 _ _ rfl (by decide) (Src.lit _ 5 _ _ 1 rfl) (by simp[Value.oneCell']) (by simp only[maxLen];omega) qG (Nat.zero_le _) ?_;intro v' w4 hown' hg' hb' hob';obtain⟨A4,c4,hv4⟩:=zU6 hown';subst hv4;have hBx:=bx_grown HRow.out HBx.out hg';have y0:=hBx.cell 0;have yf:=hBx.free 0;rw[HAv.out,HNl.out] at y0;have HG:=qK (show _∧(w1.alloc _).grownBy _ (Value.slice Av nl cv).ownBlock∧(Value.ownBlock _=(Value.slice Av nl cv).ownBlock∨_)∧_ from⟨hown',hg',hob',hBx⟩);clear hown' hg' hb' hob' hBx)
 clear e0 e1 e2 e3 e4 e5 e6 e7 e8 u0 u1 u2 u3 u4 x0 y0 yf;have h1:=HG.out.1;have hfin:=(F1.out.st).clo (q:=1) (x':=(Value.slice A4 (nl+1) c4,σ.x.2++ [yN5 t pos x file])) (N:=fun b=>b=bx∨σ.x.1.ownBlock=some b) (wy:=w4.setCell ⟨bx,0,none⟩ (.slice A4 (nl+1) c4)) ?hk ?hN ?hAt ?hM ?hct;case hk=>
  exact((((Kp.refl (fun b=>b=bx∨σ.x.1.ownBlock=some b) w1).alloc _).grown HG.out.2.1 fun k hk=>.inl (.inr (by rw[HAv.out,HNl.out];exact hk))).setCell (p:=⟨bx,0,none⟩) (.inl rfl) _)
 case hN=>exact fun b hb=>hb
 case hAt=>
  refine⟨?_,?_⟩
  ·have h2:=HG.out.2.2.2.set_ 0 (.slice A4 (nl+1) c4);simpa using h2
  ·have h3:(σ.x.2++ [yN5 t pos x file]).length=nl+1:=by rw[List.length_append,HNl.out];rfl
   rw[h3,List.flatMap_append];refine zU4 (N:=(· = bx)) (by simpa[encU,yN5] using h1) ((Kp.refl (· = bx) _).setCell (p:=⟨bx,0,none⟩) rfl _) fun b hb e=>?_;exact zQ6 h1 HG.out.2.2.2 (by decide) b hb e.symm
 case hM=>
  rintro b (hb | hb)
  ·exact .inl (.inl hb)
  ·rcases HG.out.2.2.1 with e | e
   ·exact .inl (.inr (by rw[HAv.out,HNl.out,←e];exact hb))
   ·have h4:=(zR9 h1 b hb).2;rw[e] at hb;injection hb with hb
    simp only[World.size_alloc] at hb;exact .inr ⟨by omega,by simpa[World.setCell] using h4⟩
 case hct=>show (σ.x.2++ [yN5 t pos x file]).length≤σ.x.2.length+1;simp
 obtain⟨T5,Q5,G5⟩:=hfin;have F5:=qK (F1.out.step T5 Q5 G5);have N5:=qK (show Mine (zn R (cloU bx) {σ with x:=(Value.slice A4 (nl+1) c4,σ.x.2++ [yN5 t pos x file])} Im) _ (w.heap.size+2) from Q5.own M1.out.1);have E5:=qK (Q5.kp.blk B1.out M1.out.2.2.1);have Z5:=qK (Q5.kp.blk Z1.out M1.out.1.2.1);have O5:=qK ((zZ2 Q5.kp (fun q hq hm=>(F1.out.st.zo.mu q hm).2 hq) Q5.im).1 _ O1.out);clear T5 Q5 G5 h1 HG F1 B1 Z1 O1 V1 M1 HBx HRow;generalize w4.setCell ⟨bx,0,none⟩ (.slice A4 (nl+1) c4)=w5 at F5 N5 E5 Z5 O5 ⊢;obtain⟨e0,e1,e2,e3,e4,e5,e6,e7,e8⟩:=zZ6 E5.out;obtain⟨y0,y1,y2,y3,y4,y5,y6,y7,y8⟩:=zZ6 Z5.out;obtain⟨zf0,zf1,zf2,zf3,zf4,zf5,zf6,zf7,zf8⟩:=zF8 Z5.out;go_wp2;clear e0 e1 e2 e3 e4 e5 e6 e7 e8 y0 y1 y2 y3 y4 y5 y6 y7 y8 zf0 zf1 zf2 zf3 zf4 zf5 zf6 zf7 zf8;obtain⟨F6,hB6,hK6⟩:=F5.out.store9 qG N5.out Z5.out (.int .i64 k) (.string ⟨t.toArray⟩) (.int .i64 m) (.string ⟨a.toArray⟩) (.string ⟨b.toArray⟩) (.slice As subs.length cs) (.slice Ad decls.length cd) (.slice At tail.length ct) (.int .i64 pos);have hn5:∀ q,Im q→¬ q=w.heap.size+2:=fun q hq e=>N5.out.2.2 (e▸hq);have HR:=qK (show RetE R (cloU bx) n s σ Im w (fun σ' e'=>UU bx σ (.mk k t m a b As cs subs Ad cd decls At ct tail pos) x file σ' e') (.returned (.agg #[.int .i64 k,.string ⟨t.toArray⟩,.int .i64 m,.string ⟨a.toArray⟩,.string ⟨b.toArray⟩,.slice As subs.length cs,.slice Ad decls.length cd,.slice At tail.length ct,.int .i64 pos])) _ from⟨_,Im,.mk k t m a b As cs subs Ad cd decls At ct tail pos,rfl,⟨rfl,_,rfl⟩,F6.st,F6.sp,F6.gr,(zZ2 hK6 hn5 (fun _ h=>h)).1 _ O5.out⟩);obtain⟨z0,z1,z2,z3,z4,z5,z6,z7,z8⟩:=zZ6 hB6;refine bodyPost_ret (v:=.agg #[.int .i64 k,.string ⟨t.toArray⟩,.int .i64 m,.string ⟨a.toArray⟩,.string ⟨b.toArray⟩,.slice As subs.length cs,.slice Ad decls.length cd,.slice At tail.length ct,.int .i64 pos]) ?_ rfl HR.out
 simp[results,Tryz.results40,go_sem,z0,z1,z2,z3,z4,z5,z6,z7,z8]
end
open Go.Sort
section
variable {α:Type}{lt:α→α→Bool}{ix:α→Nat}
def lexL (lt:α→α→Bool)(ix:α→Nat)(x y:α):Bool:=lt x y||(!lt y x&&decide (ix x < ix y))
theorem xX8 (x y:α):lexL lt ix x y=true↔lt x y=true∨(lt y x=false∧ix x < ix y):=by simp[lexL]
theorem zS3 (x y:α):lexL lt ix x y=false↔lt x y=false∧(lt y x=true∨¬ ix x < ix y):=by
 unfold lexL;cases lt x y <;> cases lt y x <;> simp
theorem yC7 {x y:α}(h:ix y < ix x):lt x y=lexL lt ix x y:=by
 unfold lexL;have:decide (ix x < ix y)=false:=decide_eq_false qG;rw[this];simp
theorem lex_swo (hO:SWO lt):SWO (lexL lt ix) where
 irrefl x:=by rw[zS3];exact⟨hO.irrefl x,.inr (Nat.lt_irrefl _)⟩
 trans x y z h1 h2:=by
  rw[xX8] at h1 h2 ⊢;rcases h1 with h1 | ⟨h1,h1'⟩ <;> rcases h2 with h2 | ⟨h2,h2'⟩
  ·exact .inl (hO.trans _ _ _ h1 h2)
  ·left;cases h:lt x z with
   | true=>rfl
   | false=>
     have:=hO.ntrans _ _ _ h h2;rw[h1] at this;cases this
  ·left;cases h:lt x z with
   | true=>rfl
   | false=>
     have:=hO.ntrans _ _ _ h1 h;rw[h2] at this;cases this
  ·exact .inr ⟨hO.ntrans _ _ _ h2 h1,by omega⟩
 ntrans x y z h1 h2:=by
  rw[zS3] at h1 h2 ⊢;refine⟨hO.ntrans _ _ _ h1.1 h2.1,?_⟩;cases h:lt z x with
  | true=>exact .inl rfl
  | false=>
    right;rcases h1.2 with h3 | h3
    ·have:=hO.ntrans _ _ _ h2.1 h;rw[h3] at this;cases this
    ·rcases h2.2 with h4 | h4
     ·have:=hO.ntrans _ _ _ h h1.1;rw[h4] at this;cases this
     ·omega
end
section
variable {α:Type} [Inhabited α] {lt lt2:α→α→Bool}{ix:α→Nat}
theorem zJ3 (hc:∀ x y,ix y < ix x→lt x y=lt2 x y)(a:Nat):∀ (j:Nat)(d:Array α),j < d.size→(∀ y,a≤y→y < j→ix d[y]! < ix d[j]!)→insInner lt a j d=insInner lt2 a j d
 | 0,d,_,_=>by unfold insInner;rfl
 | j+1,d,hj,h=>by
   unfold insInner;by_cases ha:j+1 > a
   ·have e:=hc _ _ (h j qG qG);rw[e];have hr:insInner lt a j (swp d (j+1) j)=insInner lt2 a j (swp d (j+1) j):=zJ3 hc a j _ (by rw[size_swp];omega) fun y h1 h2=>by
     rw[swp_other _ _ _ _ qG qG,swp_right _ _ _ qG];exact h y h1 qG
    rw[hr]
   ·have:decide (j+1 > a)=false:=decide_eq_false ha;rw[this];simp
theorem zL3 (a i:Nat):∀ (j:Nat)(d:Array α),a≤j→j≤i→i < d.size→PermIn a (i+1) d (insInner lt a j d)
 | 0,d,_,_,_=>by unfold insInner;exact permIn_refl _ _ _
 | j+1,d,haj,hji,hi=>by
   unfold insInner;split
   ·rename_i h;have ha:a≤j:=by
     simp only[Bool.and_eq_true,decide_eq_true_eq] at h;omega
    exact permIn_trans _ _ _ _ _ (swp_permIn _ _ _ _ _ qG qG qG qG qG) (zL3 a i j _ ha qG (by rw[size_swp];exact hi))
   ·exact permIn_refl _ _ _
theorem zJ4 (hc:∀ x y,ix y < ix x→lt x y=lt2 x y)(a b:Nat):∀ (n i:Nat)(d:Array α),b-i=n→a≤i→b≤d.size→(∀ y z,a≤y→y < i→i≤z→z < b→ix d[y]! < ix d[z]!)→(∀ z z',i≤z→z < z'→z' < b→ix d[z]! < ix d[z']!)→insOuter lt a b i d=insOuter lt2 a b i d
 | 0,i,d,hn,_,_,_,_=>by
   rw[insOuter,insOuter.eq_def lt2,if_neg qG,if_neg qG]
 | n+1,i,d,hn,hai,hb,h1,h2=>by
   rw[insOuter,insOuter.eq_def lt2,if_pos qG,if_pos qG];have e:=zJ3 hc a i d qG fun y q1 q2=>h1 y i q1 q2 qJ qG;rw[e];have hp:PermIn a (i+1) d (insInner lt2 a i d):=zL3 a i i d hai qJ qG;have hlow:=permIn_all d (insInner lt2 a i d) a (i+1) (fun x=>∀ z,i+1≤z→z < b→ix x < ix d[z]!) qG hp (fun y q1 q2 z q3 q4=>by
    by_cases hy:y < i
    ·exact h1 y z q1 hy qG q4
    ·have:y=i:=by omega
     subst this;exact h2 y z qJ qG q4)
   refine zJ4 hc a b n (i+1) _ qG qG (by rw[hp.1];exact hb) (fun y z q1 q2 q3 q4=>?_) (fun z z' q1 q2 q3=>?_)
   ·rw[hp.2.1 z qG];exact hlow y q1 q2 z q3 q4
   ·rw[hp.2.1 z qG,hp.2.1 z' qG];exact h2 z z' qG q2 q3
theorem zI2 (hc:∀ x y,ix y < ix x→lt x y=lt2 x y)(d:Array α)(a b:Nat)(hb:b≤d.size)(h:∀ z z',a≤z→z < z'→z' < b→ix d[z]! < ix d[z']!):Sort.insertionSort lt d a b=Sort.insertionSort lt2 d a b:=by
 unfold Sort.insertionSort;by_cases hab:a < b
 ·exact zJ4 hc a b _ (a+1) d rfl qG hb (fun y z q1 q2 q3 q4=>h y z q1 qG q4) (fun z z' q1 q2 q3=>h z z' qG q2 q3)
 ·rw[insOuter,insOuter.eq_def lt2,if_neg qG,if_neg qG]
def Cr (ix:α→Nat)(d:Array α)(a m b:Nat):Prop:=∀ i j,a≤i→i < m→m≤j→j < b→ix d[i]! < ix d[j]!
theorem Cr.kept {d d':Array α}{a m b x y:Nat}(h:Cr ix d a m b)(p:PermIn x y d d')(hn:y≤a∨b≤x):Cr ix d' a m b:=fun i j h1 h2 h3 h4=>by
 rw[p.2.1 i qG,p.2.1 j qG];exact h i j h1 h2 h3 h4
def Sep (ix:α→Nat)(n:Nat)(d:Array α)(p:Nat):Prop:=∀ i j,i < p→p≤j→j < n→ix d[i]! < ix d[j]!
theorem Sep.cr {d:Array α}{n a m b:Nat}(h:Sep ix n d m)(hb:b≤n):Cr ix d a m b:=fun i j _ h2 h3 h4=>h i j h2 h3 qG
theorem Sep.kept {d d':Array α}{n p x y:Nat}(h:Sep ix n d p)(hn:n≤d.size)(hy:y≤n)(q:PermIn x y d d')(hp:p≤x∨y≤p):Sep ix n d' p:=by
 intro i j h1 h2 h3;rcases hp with hp | hp
 ·rw[q.2.1 i qG];by_cases hj:x≤j∧j < y
  ·exact permIn_all d d' x y (fun z=>ix d[i]! < ix z) qG q (fun k k1 k2=>h i k h1 qG qG) j hj.1 hj.2
  ·rw[q.2.1 j qG];exact h i j h1 h2 h3
 ·rw[q.2.1 j qG];by_cases hi:x≤i∧i < y
  ·exact permIn_all d d' x y (fun z=>ix z < ix d[j]!) qG q (fun k k1 k2=>h k j qG h2 h3) i hi.1 hi.2
  ·rw[q.2.1 i qG];exact h i j h1 h2 h3
end
open Go.Shelf
abbrev UG:=Us × Nat
def ucmp (a b:Us):Int:=if a.pos < b.pos then -1 else if a.pos > b.pos then 1 else 0
theorem yS8 (a b:Us):ltOf ucmp a b=decide (a.pos < b.pos):=by
 unfold ltOf ucmp;by_cases h:a.pos < b.pos
 ·simp[h]
 ·by_cases h2:a.pos > b.pos
  ·simp[h,h2]
  ·simp[h,h2]
theorem ult_swo:SWO (ltOf ucmp) where
 irrefl x:=by rw[yS8];simp
 trans x y z h1 h2:=by rw[yS8] at *;simp at *;omega
 ntrans x y z h1 h2:=by rw[yS8] at *;simp at *;omega
theorem yN6 (x:Us):∀ v∈encU x,v.oneCell'=true:=by
 intro v hv;simp only[encU,List.mem_cons,List.not_mem_nil,or_false] at hv;rcases hv with rfl | rfl | rfl | rfl | rfl <;> rfl
def encG (x:UG):List Value:=encU x.1
theorem yS9 (x:UG):(encG x).length=5:=rfl
theorem xX9 (x:UG):∀ v∈encG x,v.oneCell'=true:=yN6 x.1
def cfG (x y:UG):Int:=ucmp x.1 y.1
def ixG (x:UG):Nat:=x.2
theorem xW0:SWO (ltOf cfG):=⟨fun x=>ult_swo.irrefl x.1,fun x y z=>ult_swo.trans x.1 y.1 z.1,fun x y z=>ult_swo.ntrans x.1 y.1 z.1⟩
def ltG:UG→UG→Bool:=lexL (ltOf cfG) ixG
theorem yR0:SWO ltG:=lex_swo xW0
theorem zB7 {x y:UG}(h:ixG y < ixG x):ltG x y=decide (cfG x y < 0):=(yC7 h).symm
theorem ltG_t {x y:UG}(h:ixG y < ixG x)(hv:cfG x y < 0):ltG x y=true:=by rw[zB7 h];exact decide_eq_true hv
theorem ltG_f {x y:UG}(h:ixG y < ixG x)(hv:¬ cfG x y < 0):ltG x y=false:=by rw[zB7 h];exact decide_eq_false hv
instance:Inhabited Us:=⟨⟨0,0,[],0,0⟩⟩
theorem Acc.addr {w:World}{base e size n c:Nat}{A:Option Addr}{xs:List Value}(h:Acc w base e size (.slice A n c) n xs):(A=none∧n=0∧c=0)∨∃ g off,A=some ⟨g,off,none⟩∧n≤c:=by
 rcases h with h | ⟨_,g,off,e,_⟩
 ·rcases h.2 with ⟨e,h0⟩ | ⟨g,cap,cur,e,_,_,hn,_⟩
  ·injection e with e1 e2 e3
   exact .inl ⟨e1,h0,e3⟩
  ·injection e with e1 e2 e3
   exact .inr ⟨g,0,e1,by omega⟩
 ·injection e with e1 e2 e3
  exact .inr ⟨g,off,e1,by omega⟩
theorem Acc.cap {w:World}{base e size n c:Nat}{A:Option Addr}{xs:List Value}(h:Acc w base e size (.slice A n c) n xs):n≤c:=by
 rcases h.addr with ⟨_,rfl,rfl⟩ | ⟨g,off,_,h⟩
 ·exact Nat.le_refl _
 ·exact h
theorem _root_.Go.RowKit.Below.drewN {B:Nat}{a w:World}(h:Below B a w)(n:Nat):Below B a (w.drewN n):=⟨h.os,h.tape,h.output,h.size,h.block⟩
theorem Acc.less {w:World}{base base' e size n:Nat}{v:Value}{xs:List Value}(h:Acc w base e size v n xs)(hb:base'≤base):Acc w base' e size v n xs:=by
 rcases h with h | h
 ·refine .inl ⟨h.1,?_⟩;rcases h.2 with h | ⟨g,cap,cur,h1,h2,h3⟩
  ·exact .inl h
  ·exact .inr ⟨g,cap,cur,h1,Nat.le_trans hb h2,h3⟩
 ·exact .inr h
theorem Sl.take {α:Type}{w:World}{B k:Nat}{enc:α→List Value}{A:Option Addr}{l:List α}(h:Sl w B k enc A l)(n:Nat):Sl w B k enc A (l.take n):=by
 rcases h with rfl | ⟨b,off,e,hb,hc⟩
 ·exact .inl (by simp)
 ·refine .inr ⟨b,off,e,hb,fun i hi j v hv=>?_⟩;simp at hi;exact hc i qG j v (by simpa using hv)
def cutA (A:Option Addr)(c a size:Nat):Option Addr:=if c=a then A else A.map (·.add (a*size))
theorem Sl.drop {α:Type}{w:World}{B k:Nat}{enc:α→List Value}{A:Option Addr}{l:List α}(h:Sl w B k enc A l)(c n:Nat)(hc:l.length≤c):Sl w B k enc (cutA A c n k) (l.drop n):=by
 rcases h with rfl | ⟨b,off,rfl,hb,hcs⟩
 ·exact .inl (by simp)
 ·unfold cutA;split
  ·subst c;exact .inl (by simpa using hc)
  ·refine .inr ⟨b,off+n*k,by simp[Addr.add],hb,fun i hi j v hv=>?_⟩;simp at hi;have:=hcs (n+i) qG j v (by simpa using hv);rw[Nat.add_mul,←Nat.add_assoc] at this;exact this
section
variable {P:Program}{t e size bytes:Nat}
end
theorem zS6 {w w':World}(h:BelowD w.heap.size w w'):∃ q os',w'=grow (w.drewN q) os':=by
 obtain⟨p,rfl⟩:=regrown_of_below h.toBelow;have hd:w.drawn≤p.d:=h.drawn;refine⟨p.d-w.drawn,p.os,?_⟩;have e:redrawn w p.d=w.drewN (p.d-w.drawn):=by
  unfold redrawn World.drewN;congr 1;omega
 rw[e]
section
variable {α:Type} [Inhabited α] {enc:α→List Value}{k:Nat}
theorem yC8 {β:Type} [Inhabited β] {l:List β}{i:Nat}{v:β}(h:l[i]? = some v):l[i]! = v:=by simp[h]
theorem yY2 (hk:∀ x,(enc x).length=k){w:World}{base:Nat}{e:TypeId}{v:Value}{l:List α}(h:w.ownsRow base e k v l.length (l.flatMap enc))(hv:v≠.slice none 0 0) :
  ∃ g cap,v=.slice (some ⟨g,0,none⟩) l.length cap∧base≤g∧g < w.heap.size∧HoldsK enc k w g 0 l.toArray:=by
 have hw:=h;rcases h.2 with ⟨rfl,_⟩ | ⟨g,cap,cur,rfl,hbase,hh,_⟩
 ·exact absurd rfl hv
 ·have hlt:g < w.heap.size:=by
   rcases Nat.lt_or_ge g w.heap.size with hlt | hge
   ·exact hlt
   ·rw[Array.getElem?_eq_none hge] at hh;cases hh
  refine⟨g,cap,rfl,hbase,hlt,fun j hj=>?_⟩;simp only[size_flatK,List.size_toArray] at hj;refine⟨?_,by simp[World.frozen?,hh]⟩;obtain⟨h1,h2,h3⟩:=yY9 hj;rw[Nat.zero_add,hw.cellAt j hj,get_flatK _ _ _ _ (by simpa using hj)];have hi:j % k < (enc l[j / k]).length:=by rw[hk];exact h2
  have e1:(l.flatMap enc)[j]? = (enc l[j / k])[j % k]?:=by
   have:=zF4 hk l _ h1 _ h2
   rwa [←h3] at this
  rw[e1];simp[h1,hi]
theorem yN7 (hk:∀ x,(enc x).length=k){w:World}{blk off:Nat}{l:List α}(h:HoldsK enc k w blk off l.toArray)(hb:blk < w.heap.size):Sl w w.heap.size k enc (some ⟨blk,off,none⟩) l:=by
 refine .inr ⟨blk,off,rfl,hb,fun i hi j v hv=>?_⟩;have hj:j < k:=by rw[←hk l[i]];exact(List.getElem?_eq_some_iff.1 hv).1
 have:=(h.cell (i:=i) (c:=j) (by simpa using hi) hj).1;rw[this];congr 1;have e:(l.toArray)[i]! = l[i]:=by simp[hi]
 rw[e];exact yC8 hv
end
section
variable {α:Type}{lt:α→α→Bool}
def leOf (lt:α→α→Bool)(a b:α):Prop:=lt b a=false
theorem le_of_lt (hO:SWO lt){a b:α}(h:lt a b=true):leOf lt a b:=by
 unfold leOf;cases hb:lt b a
 ·rfl
 ·have:=hO.trans a b a h hb;rw[hO.irrefl] at this;cases this
end
section
variable {α:Type}
theorem yY3 [Inhabited α] {l:List α}{d':Array α}(h:PermIn 0 l.toArray.size l.toArray d'):d'.toList.Perm l:=by
 obtain⟨hsz,_,hperm⟩:=h;have e1:d'.extract 0 l.toArray.size=d':=by rw[←hsz];exact Array.extract_size
 rw[e1,Array.extract_size] at hperm;simpa using hperm
theorem zK6 [Inhabited α] {lt:α→α→Bool}{n:Nat}{d':Array α}(h:SortedIn lt 0 n d')(hn:d'.size=n):d'.toList.Pairwise (leOf lt):=by
 rw[List.pairwise_iff_getElem];intro i j hi hj hij;have hi':i < d'.size:=by simpa using hi
 have hj':j < d'.size:=by simpa using hj
 have:=h i j (Nat.zero_le _) hij qG;rw[getElem!_pos d' j hj',getElem!_pos d' i hi'] at this;simpa[leOf] using this
def NewRowK (w:World)(base e k:Nat)(enc:α→List Value)(v:Value)(l:List α):Prop:=
 (l=[]∧∃ A c,v=.slice A 0 c)∨(v≠.slice none 0 0∧w.ownsRow base e k v l.length (l.flatMap enc))
theorem NewRowK.slice {w:World}{base e k:Nat}{enc:α→List Value}{v:Value}{l:List α}(h:NewRowK w base e k enc v l):∃ A c,v=.slice A l.length c∧l.length≤c:=by
 rcases h with ⟨rfl,A,c,rfl⟩ | ⟨_,h⟩
 ·exact⟨A,c,rfl,Nat.zero_le _⟩
 ·obtain⟨A,c,rfl⟩:=Acc.shape (.inl h);exact⟨A,c,rfl,Acc.cap (.inl h)⟩
variable {P:Program}{ρ:Ren}
end
theorem zB8 {α:Type}{lt:α→α→Bool}(hO:SWO lt){x y:α}(h:lt x y=true):lt y x=false:=by
 cases h2:lt y x with
 | false=>rfl
 | true=>
   have:=hO.trans _ _ _ h h2;rw[hO.irrefl] at this;cases this
section
variable {α:Type} [Inhabited α] {lt:α→α→Bool}
theorem SortedIn.le (hO:SWO lt){d:Array α}{a b i j:Nat}(h:SortedIn lt a b d)(hi:a≤i)(hij:i≤j)(hj:j < b):lt d[j]! d[i]! = false:=by
 rcases Nat.eq_or_lt_of_le hij with rfl | hlt
 ·exact hO.irrefl _
 ·exact h i j hi hlt hj
theorem yC9 {d1 d2 d3:Array α}{a mid b:Nat}(h1:PermIn a mid d1 d2)(s1:SortedIn lt a mid d2)(h2:PermIn mid b d2 d3)(s2:SortedIn lt mid b d3)(ham:a≤mid)(hmb:mid≤b)(hb:b≤d1.size)
  (hc:∀ i j,a≤i→i < mid→mid≤j→j < b→lt d1[j]! d1[i]! = false):SortedIn lt a b d3∧PermIn a b d1 d3:=by
 have hs2:d2.size=d1.size:=h1.1;have hp:PermIn a b d1 d3:=permIn_trans _ _ _ a b (permIn_mono _ _ a mid a b qJ hmb hb h1) (permIn_mono _ _ mid b a b ham qJ qG h2);refine⟨fun i j hi hij hj=>?_,hp⟩;by_cases hjm:j < mid
 ·rw[h2.2.1 i qG,h2.2.1 j qG];exact s1 i j hi hij hjm
 ·by_cases him:mid≤i
  ·exact s2 i j him hij hj
  ·have e1:=permIn_all d1 d2 a mid (fun x=>∀ j,mid≤j→j < b→lt d1[j]! x=false) qG h1 (fun i hi hi' j hj hj'=>hc i j hi hi' hj hj');have e2:=permIn_all d2 d3 mid b (fun y=>lt y d2[i]! = false) qG h2 (fun j hj hj'=>by
    rw[h1.2.1 j qG];exact e1 i hi qG j hj hj')
   rw[h2.2.1 i qG];exact e2 j qG hj
def Rot (d d':Array α)(lo m hi:Nat):Prop:=d'.size=d.size∧∀ x,d'[x]! = if lo≤x∧x < lo+(hi-m) then d[m+(x-lo)]! else if lo+(hi-m)≤x∧x < hi then d[x-(hi-m)]! else d[x]!
def SwR (d d':Array α)(a b n:Nat):Prop:=d'.size=d.size∧∀ x,d'[x]! = if a≤x∧x < a+n then d[b+(x-a)]! else if b≤x∧x < b+n then d[a+(x-b)]! else d[x]!
theorem xW1 (d:Array α){i j:Nat}(hi:i < d.size)(hj:j < d.size)(x:Nat):(swp d i j)[x]! = if x=i then d[j]! else if x=j then d[i]! else d[x]!:=by
 by_cases h1:x=i
 ·subst h1;rw[if_pos rfl];by_cases h2:x=j
  ·subst h2;exact swp_right d x x hj
  ·exact swp_left d x j hi h2
 ·rw[if_neg h1];by_cases h2:x=j
  ·subst h2;rw[if_pos rfl];exact swp_right d i x hj
  ·rw[if_neg h2];exact swp_other d i j x h1 h2
theorem SwR.start (d:Array α)(a b:Nat):SwR d d a b 0:=⟨rfl,fun x=>by rw[if_neg qG,if_neg qG]⟩
theorem SwR.step {d dk:Array α}{a b n:Nat}(h:SwR d dk a b n)(hab:a+n < b)(hb:b+n < d.size):SwR d (swp dk (a+n) (b+n)) a b (n+1):=by
 refine⟨by rw[size_swp];exact h.1,fun x=>?_⟩;rw[xW1 dk (by rw[h.1];omega) (by rw[h.1];omega)];by_cases h1:x=a+n
 ·subst h1;rw[if_pos rfl,h.2,if_neg qG,if_neg qG,if_pos qG,show a+n-a=n by omega]
 ·rw[if_neg h1];by_cases h2:x=b+n
  ·subst h2;rw[if_pos rfl,h.2,if_neg qG,if_neg qG,if_neg qG,if_pos qG,show b+n-b=n by omega]
  ·rw[if_neg h2,h.2];by_cases h3:a≤x∧x < a+n
   ·rw[if_pos h3,if_pos qG]
   ·rw[if_neg h3];by_cases h4:b≤x∧x < b+n
    ·rw[if_pos h4,if_neg qG,if_pos qG]
    ·rw[if_neg h4,if_neg qG,if_neg qG]
def RotLeft (D dk:Array α)(m i j:Nat):Prop:=Rot dk D (m-i) m (m+j)
theorem RotLeft.first {D dk dn:Array α}{m i j:Nat}(h:RotLeft D dk m i j)(hij:j < i)(him:i≤m)(hs:SwR dk dn (m-i) m j):RotLeft D dn m (i-j) j:=by
 refine⟨h.1.trans hs.1.symm,fun x=>?_⟩;have hx:=h.2 x;rw[hx];have e1:m-i+(m+j-m)=m-i+j:=by omega
 have e2:m-(i-j)+(m+j-m)=m-i+j+j:=by omega
 have e3:m-(i-j)=m-i+j:=by omega
 rw[e1,e2,e3];by_cases h1:m-i≤x∧x < m-i+j
 ·rw[if_pos h1,if_neg qG,if_neg qG,hs.2,if_pos h1]
 ·rw[if_neg h1];by_cases h2:m-i+j≤x∧x < m+j
  ·rw[if_pos h2];by_cases h3:x < m-i+j+j
   ·rw[if_pos ⟨h2.1,h3⟩,hs.2,if_neg qG,if_pos qG];congr 1;omega
   ·rw[if_neg qG,if_pos qG,hs.2,if_neg qG,if_neg qG]
  ·rw[if_neg h2,if_neg qG,if_neg qG,hs.2,if_neg h1];by_cases h4:m≤x∧x < m+j
   ·omega
   ·rw[if_neg h4]
theorem RotLeft.second {D dk dn:Array α}{m i j:Nat}(h:RotLeft D dk m i j)(hij:i < j)(him:i≤m)(hs:SwR dk dn (m-i) (m+j-i) i):RotLeft D dn m i (j-i):=by
 refine⟨h.1.trans hs.1.symm,fun x=>?_⟩;rw[h.2 x];have e1:m-i+(m+j-m)=m-i+j:=by omega
 have e2:m-i+(m+(j-i)-m)=m-i+(j-i):=by omega
 rw[e1,e2];by_cases h1:m-i≤x∧x < m-i+(j-i)
 ·rw[if_pos qG,if_pos h1,hs.2];by_cases h2:m+(x-(m-i)) < m+j-i
  ·rw[if_neg qG,if_neg qG]
  ·omega
 ·rw[if_neg h1];by_cases h2:m-i+(j-i)≤x∧x < m+(j-i)
  ·rw[if_pos h2];by_cases h3:m-i≤x∧x < m-i+j
   ·rw[if_pos h3,hs.2];have e:x-(m+(j-i)-m)=m-i+(m+(x-(m-i))-(m+j-i)):=by omega
    rw[e,if_pos qG];congr 1;omega
   ·omega
  ·rw[if_neg h2];by_cases h3:m-i≤x∧x < m-i+j
   ·rw[if_pos h3,hs.2,if_neg qG,if_pos qG];omega
   ·rw[if_neg h3];by_cases h4:m-i+j≤x∧x < m+j
    ·rw[if_pos h4,hs.2,if_neg qG,if_pos qG];congr 1;omega
    ·rw[if_neg h4,hs.2,if_neg qG,if_neg qG]
theorem RotLeft.last {D dk dn:Array α}{m i:Nat}(h:RotLeft D dk m i i)(him:i≤m)(hs:SwR dk dn (m-i) m i)(x:Nat):D[x]! = dn[x]!:=by
 rw[h.2 x,hs.2 x];by_cases h1:m-i≤x∧x < m-i+i
 ·rw[if_pos qG,if_pos h1]
 ·rw[if_neg qG,if_neg h1];by_cases h2:m≤x∧x < m+i
  ·rw[if_pos qG,if_pos h2];congr 1;omega
  ·rw[if_neg qG,if_neg h2]
structure SymCut (lt:α→α→Bool)(d:Array α)(a m b s e:Nat):Prop where
 has:a≤s
 sm:s≤m
 me:m≤e
 eb:e≤b
 lo:s=a∨e=b∨lt d[e]! d[s-1]! = false
 hi:e=m∨s=m∨lt d[e-1]! d[s]! = true
theorem SymCut.cross (hO:SWO lt){d:Array α}{a m b s e:Nat}(h:SymCut lt d a m b s e)(h1:SortedIn lt a m d)(h2:SortedIn lt m b d){x y:Nat}(hx:(a≤x∧x < s)∨(m≤x∧x < e))(hy:(s≤y∧y < m)∨(e≤y∧y < b)):lt d[y]! d[x]! = false:=by
 have has:=h.has;have sm:=h.sm;have me:=h.me;have eb:=h.eb;rcases hx with hx | hx <;> rcases hy with hy | hy
 ·exact h1 x y hx.1 qG hy.2
 ·rcases h.lo with e1 | e1 | e1
  ·omega
  ·omega
  ·have q1:=SortedIn.le hO h2 (i:=e) (j:=y) me hy.1 hy.2;have q2:=SortedIn.le hO h1 (i:=x) (j:=s-1) hx.1 qG qG;exact hO.ntrans _ _ _ q1 (hO.ntrans _ _ _ e1 q2)
 ·rcases h.hi with e1 | e1 | e1
  ·omega
  ·omega
  ·have q1:=SortedIn.le hO h1 (i:=s) (j:=y) has hy.1 hy.2;have q2:=SortedIn.le hO h2 (i:=x) (j:=e-1) hx.1 qG qG;exact hO.ntrans _ _ _ q1 (hO.ntrans _ _ _ (zB8 hO e1) q2)
 ·exact h2 x y hx.1 qG hy.2
theorem SymCut.turned (hO:SWO lt){d d1:Array α}{a m b s e mid:Nat}(h:SymCut lt d a m b s e)(h1:SortedIn lt a m d)(h2:SortedIn lt m b d)(hr:Rot d d1 s m e)(hmid:mid=s+(e-m)) :
  SortedIn lt a s d1∧SortedIn lt s mid d1∧SortedIn lt mid e d1∧SortedIn lt e b d1∧∀ i j,a≤i→i < mid→mid≤j→j < b→lt d1[j]! d1[i]! = false:=by
 have has:=h.has;have sm:=h.sm;have me:=h.me;have eb:=h.eb;subst hmid;have ea:∀ x,x < s→d1[x]! = d[x]!:=fun x hx=>by rw[hr.2,if_neg qG,if_neg qG]
 have eb':∀ x,s≤x→x < s+(e-m)→d1[x]! = d[m+(x-s)]!:=fun x h1 h2=>by rw[hr.2,if_pos ⟨h1,h2⟩]
 have ec:∀ x,s+(e-m)≤x→x < e→d1[x]! = d[x-(e-m)]!:=fun x h1 h2=>by rw[hr.2,if_neg qG,if_pos ⟨h1,h2⟩]
 have ed:∀ x,e≤x→d1[x]! = d[x]!:=fun x hx=>by rw[hr.2,if_neg qG,if_neg qG]
 refine⟨fun i j hi hij hj=>?_,fun i j hi hij hj=>?_,fun i j hi hij hj=>?_,fun i j hi hij hj=>?_,fun i j hi hi' hj hj'=>?_⟩
 ·rw[ea i qG,ea j hj];exact h1 i j hi hij qG
 ·rw[eb' i hi qG,eb' j qG hj];exact h2 _ _ qG qG qG
 ·rw[ec i hi qG,ec j qG hj];exact h1 _ _ qG qG qG
 ·rw[ed i hi,ed j qG];exact h2 i j qG hij hj
 ·have hx:∃ x,d1[i]! = d[x]!∧((a≤x∧x < s)∨(m≤x∧x < e)):=by
   by_cases q:i < s
   ·exact⟨i,ea i q,.inl ⟨hi,q⟩⟩
   ·exact⟨_,eb' i qG hi',.inr ⟨by omega,by omega⟩⟩
  have hy:∃ y,d1[j]! = d[y]!∧((s≤y∧y < m)∨(e≤y∧y < b)):=by
   by_cases q:j < e
   ·exact⟨_,ec j hj q,.inl ⟨by omega,by omega⟩⟩
   ·exact⟨j,ed j qG,.inr ⟨by omega,hj'⟩⟩
  obtain⟨x,e1,hx⟩:=hx;obtain⟨y,e2,hy⟩:=hy;rw[e1,e2];exact h.cross hO h1 h2 hx hy
def ShR (d d':Array α)(a i:Nat):Prop:=d'.size=d.size∧∀ x,d'[x]! = if a≤x∧x < i then d[x+1]! else if x=i then d[a]! else d[x]!
theorem ShR.start (d:Array α)(a:Nat):ShR d d a a:=⟨rfl,fun x=>by
 rw[if_neg qG];split
 ·rename_i h;rw[h]
 ·rfl⟩
theorem ShR.step {d dk:Array α}{a k:Nat}(h:ShR d dk a k)(hak:a≤k)(hk:k+1 < d.size):ShR d (swp dk k (k+1)) a (k+1):=by
 refine⟨by rw[size_swp];exact h.1,fun x=>?_⟩;rw[xW1 dk (by rw[h.1];omega) (by rw[h.1];omega)];by_cases h1:x=k
 ·subst h1;rw[if_pos rfl,if_pos qG,h.2,if_neg qG,if_neg qG]
 ·rw[if_neg h1];by_cases h2:x=k+1
  ·exact xU
  ·rw[if_neg h2,h.2];by_cases h3:a≤x∧x < k
   ·rw[if_pos h3,if_pos qG]
   ·rw[if_neg h3,if_neg qG,if_neg qG,if_neg h2]
theorem ShR.lo {d d':Array α}{a i x:Nat}(h:ShR d d' a i)(h1:a≤x)(h2:x < i):d'[x]! = d[x+1]!:=by rw[h.2,if_pos ⟨h1,h2⟩]
theorem ShR.mid {d d':Array α}{a i:Nat}(h:ShR d d' a i):d'[i]! = d[a]!:=by rw[h.2,if_neg qG,if_pos rfl]
theorem ShR.hi {d d':Array α}{a i x:Nat}(h:ShR d d' a i)(h1:i < x):d'[x]! = d[x]!:=by rw[h.2,if_neg qG,if_neg qG]
theorem ShR.sorted (hO:SWO lt){d d':Array α}{a b i:Nat}(h:ShR d d' a i)(hi:a≤i)(hib:i < b)(hs:SortedIn lt (a+1) b d)(h1:i=a∨lt d[i]! d[a]! = true)(h2:i+1=b∨lt d[i+1]! d[a]! = false):SortedIn lt a b d':=by
 intro x y hx hxy hy;by_cases x1:x < i
 ·rw[h.lo hx x1];by_cases y1:y < i
  ·rw[h.lo qG y1];exact hs _ _ qG qG qG
  ·by_cases y2:y=i
   ·rw[y2,h.mid];rcases h1 with h1 | h1
    ·omega
    ·exact hO.ntrans _ _ _ (zB8 hO h1) (SortedIn.le hO hs qG qG qG)
   ·rw[h.hi qG];exact SortedIn.le hO hs qG qG qG
 ·by_cases x2:x=i
  ·rw[x2,h.mid,h.hi qG];rcases h2 with h2 | h2
   ·omega
   ·exact hO.ntrans _ _ _ (SortedIn.le hO hs (i:=i+1) qG qG qG) h2
  ·rw[h.hi qG,h.hi qG];exact hs _ _ qG hxy hy
def ShL (d d':Array α)(i m:Nat):Prop:=d'.size=d.size∧∀ x,d'[x]! = if i < x∧x≤m then d[x-1]! else if x=i then d[m]! else d[x]!
theorem ShL.start (d:Array α)(m:Nat):ShL d d m m:=⟨rfl,fun x=>by
 rw[if_neg qG];split
 ·rename_i h;rw[h]
 ·rfl⟩
theorem ShL.step {d dk:Array α}{m k:Nat}(h:ShL d dk (k+1) m)(hk:k+1≤m)(hm:m < d.size):ShL d (swp dk (k+1) k) k m:=by
 refine⟨by rw[size_swp];exact h.1,fun x=>?_⟩;rw[xW1 dk (by rw[h.1];omega) (by rw[h.1];omega)];by_cases h1:x=k+1
 ·subst h1;rw[if_pos rfl,if_pos qG,h.2,if_neg qG,if_neg qG,show k+1-1=k by omega]
 ·rw[if_neg h1];by_cases h2:x=k
  ·exact xU
  ·rw[if_neg h2,h.2];by_cases h3:k+1 < x∧x≤m
   ·rw[if_pos h3,if_pos qG]
   ·rw[if_neg h3,if_neg qG,if_neg qG,if_neg h2]
theorem ShL.lo {d d':Array α}{i m x:Nat}(h:ShL d d' i m)(h1:x < i):d'[x]! = d[x]!:=by rw[h.2,if_neg qG,if_neg qG]
theorem ShL.mid {d d':Array α}{i m:Nat}(h:ShL d d' i m):d'[i]! = d[m]!:=by rw[h.2,if_neg qG,if_pos rfl]
theorem ShL.hi {d d':Array α}{i m x:Nat}(h:ShL d d' i m)(h1:i < x)(h2:x≤m):d'[x]! = d[x-1]!:=by rw[h.2,if_pos ⟨h1,h2⟩]
theorem ShL.sorted (hO:SWO lt){d d':Array α}{a m i:Nat}(h:ShL d d' i m)(hi:a≤i)(him:i≤m)(hs:SortedIn lt a m d)(h1:i=a∨lt d[m]! d[i-1]! = false)(h2:i=m∨lt d[m]! d[i]! = true):SortedIn lt a (m+1) d':=by
 intro x y hx hxy hy;by_cases x1:x < i
 ·rw[h.lo x1];by_cases y1:i < y
  ·rw[h.hi y1 qG];exact SortedIn.le hO hs qG qG qG
  ·by_cases y2:y=i
   ·rw[y2,h.mid];rcases h1 with h1 | h1
    ·omega
    ·exact hO.ntrans _ _ _ h1 (SortedIn.le hO hs qG qG qG)
   ·rw[h.lo qG];exact hs _ _ qG hxy qG
 ·by_cases x2:x=i
  ·rw[x2,h.mid,h.hi qG qG];rcases h2 with h2 | h2
   ·omega
   ·exact hO.ntrans _ _ _ (SortedIn.le hO hs (i:=i) qG qG qG) (zB8 hO h2)
  ·rw[h.hi qG qG,h.hi qG qG];exact hs _ _ qG qG qG
end
theorem drew_set (w:World)(p:Addr)(v:Value):w.drew.setCell p v=(w.setCell p v).drew:=rfl
abbrev SWI (w0:World)(blk off:Nat)(d:Array UG)(W:World):Prop:=SWK encG 5 w0 blk off d W
theorem zZ1 {w0 W:World}{blk off:Nat}{d0 d:Array UG}(R:RowK encG 5 w0 blk off d0)(S:SWI w0 blk off d W)(hs:d.size=d0.size){i:Nat}(hi:i < d.size) :
  W.cell? ⟨blk,off+i*5,none⟩=some (.int .i64 d[i]!.1.file)∧W.cell? ⟨blk,off+i*5+1,none⟩=some (.int .i64 d[i]!.1.pos)∧W.cell? ⟨blk,off+i*5+2,none⟩=some (.string ⟨d[i]!.1.name.toArray⟩)∧W.cell? ⟨blk,off+i*5+3,none⟩=some (.int .i64 d[i]!.1.kind)∧W.cell? ⟨blk,off+i*5+4,none⟩=some (.int .i64 d[i]!.1.depth)∧W.frozen? ⟨blk,off+i*5,none⟩=false∧W.frozen? ⟨blk,off+i*5+1,none⟩=false∧W.frozen? ⟨blk,off+i*5+2,none⟩=false∧W.frozen? ⟨blk,off+i*5+3,none⟩=false∧W.frozen? ⟨blk,off+i*5+4,none⟩=false:=by
 have h:=S.holds R.hblk R.hH hs;exact⟨(h.cell (i:=i) (c:=0) hi (by decide)).1,(h.cell (i:=i) (c:=1) hi (by decide)).1,(h.cell (i:=i) (c:=2) hi (by decide)).1,(h.cell (i:=i) (c:=3) hi (by decide)).1,(h.cell (i:=i) (c:=4) hi (by decide)).1,(h.cell (i:=i) (c:=0) hi (by decide)).2,(h.cell (i:=i) (c:=1) hi (by decide)).2,(h.cell (i:=i) (c:=2) hi (by decide)).2,(h.cell (i:=i) (c:=3) hi (by decide)).2,(h.cell (i:=i) (c:=4) hi (by decide)).2⟩
theorem yR1 {w0 W:World}{blk off:Nat}{d0 d:Array UG}(R:RowK encG 5 w0 blk off d0)(S:SWI w0 blk off d W)(i j:Nat)(hi:i < d.size)(hj:j < d.size) :
  SWI w0 blk off (swp d i j) ((((((((((((W.setCell ⟨blk,off+i*5,none⟩ (.int .i64 d[j]!.1.file)).setCell ⟨blk,off+i*5+1,none⟩ (.int .i64 d[j]!.1.pos)).setCell ⟨blk,off+i*5+2,none⟩ (.string ⟨d[j]!.1.name.toArray⟩)).setCell ⟨blk,off+i*5+3,none⟩ (.int .i64 d[j]!.1.kind)).setCell ⟨blk,off+i*5+4,none⟩ (.int .i64 d[j]!.1.depth)).setCell ⟨blk,off+j*5,none⟩ (.int .i64 d[i]!.1.file)).setCell ⟨blk,off+j*5+1,none⟩ (.int .i64 d[i]!.1.pos)).setCell ⟨blk,off+j*5+2,none⟩ (.string ⟨d[i]!.1.name.toArray⟩)).setCell ⟨blk,off+j*5+3,none⟩ (.int .i64 d[i]!.1.kind)).setCell ⟨blk,off+j*5+4,none⟩ (.int .i64 d[i]!.1.depth))).drew):=by
 have h:SWI w0 blk off (swp d i j) (((((((((((W.drew.setCell ⟨blk,off+i*5,none⟩ (.int .i64 d[j]!.1.file)).setCell ⟨blk,off+i*5+1,none⟩ (.int .i64 d[j]!.1.pos)).setCell ⟨blk,off+i*5+2,none⟩ (.string ⟨d[j]!.1.name.toArray⟩)).setCell ⟨blk,off+i*5+3,none⟩ (.int .i64 d[j]!.1.kind)).setCell ⟨blk,off+i*5+4,none⟩ (.int .i64 d[j]!.1.depth)).setCell ⟨blk,off+j*5,none⟩ (.int .i64 d[i]!.1.file)).setCell ⟨blk,off+j*5+1,none⟩ (.int .i64 d[i]!.1.pos)).setCell ⟨blk,off+j*5+2,none⟩ (.string ⟨d[i]!.1.name.toArray⟩)).setCell ⟨blk,off+j*5+3,none⟩ (.int .i64 d[i]!.1.kind)).setCell ⟨blk,off+j*5+4,none⟩ (.int .i64 d[i]!.1.depth))):=S.swapped R i j hi hj;simp only[drew_set] at h;exact h
set_option maxRecDepth 100000 in
set_option maxHeartbeats 4000000 in
theorem zN7 (blk off cap a b n:Nat)(d0 d:Array UG)(f:Value)(w0 w:World)(R:RowK encG 5 w0 blk off d0)(S:SWI w0 blk off d w)(hs:d.size=d0.size)(hab:a+n≤b)(hb:b+n≤d0.size)(hsz:d0.size≤1048576) :
  Calls Tryz.prog 176 #[.slice (some ⟨blk,off,none⟩) d0.size cap,.int .i64 a,.int .i64 b,.int .i64 n,f] w fun e w'=>e=.returned (.tuple #[])∧∃ d',SwR d d' a b n∧PermIn a (b+n) d d'∧SWI w0 blk off d' w':=by
 have HS0:=qK S;have mixed:=Tryz.insU.mixed;clear S;go_enter Tryz.func176,Tryz.ntmps176
 go_wp2;go_loopw [10] (fun i wr=>∃ (k:Nat) (dk:Array UG),k≤n∧i=.int .i64 (k:Nat)∧dk.size=d.size∧Hid (SwR d dk a b k∧PermIn a (b+n) d dk)∧Hid (SWI w0 blk off dk wr)) (fun i _=>n-(intOf i).toNat)
 case atStart=>exact⟨0,d,Nat.zero_le _,rfl,rfl,qK ⟨SwR.start d a b,permIn_refl _ _ _⟩,HS0⟩
 case round=>
  obtain⟨k,dk,hk,rfl,hds,HP,HS⟩:=hrel;by_cases hlt:k < n
  ·have hlt':(k:Int) < (n:Int):=by omega
   have r1:IntKind.i64.wrap ((a:Int)+(k:Int))=(a:Int)+(k:Int):=by rw[IntKind.wrap_i64];omega
   have r2:IntKind.i64.wrap ((b:Int)+(k:Int))=(b:Int)+(k:Int):=by rw[IntKind.wrap_i64];omega
   have eI:((a:Int)+(k:Int)).toNat=a+k:=by omega
   have pI:(0:Int)≤(a:Int)+(k:Int):=by omega
   have bI:(a:Int)+(k:Int) < (d0.size:Int):=by omega
   have eJ:((b:Int)+(k:Int)).toNat=b+k:=by omega
   have pJ:(0:Int)≤(b:Int)+(k:Int):=by omega
   have bJ:(b:Int)+(k:Int) < (d0.size:Int):=by omega
   have S9:=qK (yR1 R HS.out (a+k) (b+k) qG qG);obtain⟨xi0,xi1,xi2,xi3,xi4,xi5,xi6,xi7,xi8,xi9⟩:=zZ1 R HS.out qG (i:=a+k) qG;obtain⟨xj0,xj1,xj2,xj3,xj4,xj5,xj6,xj7,xj8,xj9⟩:=zZ1 R HS.out qG (i:=b+k) qG;generalize dk[a+k]! = XI at S9 xi0 xi1 xi2 xi3 xi4;generalize dk[b+k]! = XJ at S9 xj0 xj1 xj2 xj3 xj4;go_wp2_with fail
   go_big_region_o
   clear xi0 xj0 xi1 xj1 xi2 xj2 xi3 xj3 xi4 xj4 xi5 xj5 xi6 xj6 xi7 xj7 xi8 xj8 xi9 xj9 eI pI bI eJ pJ bJ;all_goals go_wp2
   go_roundw
   case rel=>exact⟨k+1,_,by omega,by go_num,by rw[size_swp];exact hds,qK ⟨HP.out.1.step qG qG,permIn_trans _ _ _ _ _ HP.out.2 (swp_permIn _ _ _ _ _ qG qG qG qG qG)⟩,S9⟩
   case measure=>simp[intOf];omega
  ·obtain rfl:k=n:=by omega
   have hlt':¬ (k:Int) < (k:Int):=by omega
   go_wp2
   go_end0
   exact⟨rfl,dk,HP.out.1,HP.out.2,HS.out⟩
theorem yB0 {α:Type} [Inhabited α] (d:Array α){a m b:Nat}(h1:a≤m)(h2:m≤b)(hb:b≤d.size):∃ D,Rot d D a m b:=by
 refine⟨(Array.range d.size).map fun x=>if a≤x∧x < a+(b-m) then d[m+(x-a)]! else if a+(b-m)≤x∧x < b then d[x-(b-m)]! else d[x]!,by simp,fun x=>?_⟩;by_cases hx:x < d.size
 ·rw[getElem!_pos _ x (by simpa using hx)];simp
 ·rw[getElem!_neg _ x (by simpa using hx),if_neg qG,if_neg qG,getElem!_neg _ x hx]
theorem Rot.of_eq {D d d':Array UG}{a m b:Nat}(h:Rot d D a m b)(hs:d'.size=D.size)(he:∀ x:Nat,D[x]! = d'[x]!):Rot d d' a m b:=⟨hs.trans h.1,fun x=>by rw[←he];exact h.2 x⟩
set_option maxRecDepth 100000 in
set_option maxHeartbeats 4000000 in
theorem yB1 (blk off cap a m b:Nat)(d0 d:Array UG)(f:Value)(w0 w:World)(R:RowK encG 5 w0 blk off d0)(S:SWI w0 blk off d w)(hs:d.size=d0.size)(ham:a < m)(hmb:m < b)(hb:b≤d0.size)(hsz:d0.size≤1048576) :
  Calls Tryz.prog 149 #[.slice (some ⟨blk,off,none⟩) d0.size cap,.int .i64 a,.int .i64 m,.int .i64 b,f] w fun e w'=>e=.returned (.tuple #[])∧∃ d',Rot d d' a m b∧PermIn a b d d'∧SWI w0 blk off d' w':=by
 have HS0:=qK S;have mixed:=Tryz.insU.mixed;obtain⟨D,hD⟩:=yB0 d (a:=a) (m:=m) (b:=b) qG qG qG;have HD:=qK hD;clear S hD;have wi:IntKind.i64.wrap ((m:Int)-(a:Int))=((m-a:Nat):Int):=by rw[IntKind.wrap_i64];omega
 have wj:IntKind.i64.wrap ((b:Int)-(m:Int))=((b-m:Nat):Int):=by rw[IntKind.wrap_i64];omega
 go_enter Tryz.func149,Tryz.ntmps149
 go_wp2;go_loopw [10,11] (fun vi vj wr=>∃ (i j:Nat) (dk:Array UG),0 < i∧0 < j∧a+i≤m∧m+j≤b∧vi=.int .i64 (i:Nat)∧vj=.int .i64 (j:Nat)∧dk.size=d.size∧Hid (RotLeft D dk m i j∧PermIn a b d dk)∧Hid (SWI w0 blk off dk wr)) (fun vi vj _=>(intOf vi).toNat+(intOf vj).toNat)
 case atStart=>exact⟨m-a,b-m,d,by omega,by omega,by omega,by omega,by first | rfl | go_num,by first | rfl | go_num,rfl,qK ⟨by unfold RotLeft;rw[show m-(m-a)=a by omega,show m+(b-m)=b by omega];exact HD.out,permIn_refl _ _ _⟩,HS0⟩
 case round=>
  obtain⟨i,j,dk,hi0,hj0,him,hjb,rfl,rfl,hds,HP,HS⟩:=hrel;have wmi:IntKind.i64.wrap ((m:Int)-(i:Int))=((m-i:Nat):Int):=by rw[IntKind.wrap_i64];omega
  have wmj:IntKind.i64.wrap ((m:Int)+(j:Int))=((m+j:Nat):Int):=by rw[IntKind.wrap_i64];omega
  by_cases hne:i=j
  ·subst hne;have hbe:((i:Int) == (i:Int))=true:=by simp
   have hde:decide ((i:Int)=(i:Int))=true:=by simp
   have cS:=zN7 blk off cap (m-i) m i d0 dk f w0 wr R HS.out qG qG qG hsz;go_wp2_with fail
   refine cS.mono ?_;rintro e w2 ⟨rfl,d',h1,h2,h3⟩;go_wp2
   go_end0
   exact⟨rfl,d',Rot.of_eq HD.out (by rw[h1.1,hds,HD.out.1]) (HP.out.1.last qG h1),permIn_trans _ _ _ _ _ HP.out.2 (permIn_mono _ _ _ _ _ _ qG qG qG h2),h3⟩
  ·have hne':¬ (i:Int)=(j:Int):=by omega
   have hbe:((i:Int) == (j:Int))=false:=by simpa using hne'
   have hde:decide ((i:Int)=(j:Int))=false:=by simpa using hne'
   by_cases hij:j < i
   ·have hij':(j:Int) < (i:Int):=by omega
    have wij:IntKind.i64.wrap ((i:Int)-(j:Int))=((i-j:Nat):Int):=by rw[IntKind.wrap_i64];omega
    have cS:=zN7 blk off cap (m-i) m j d0 dk f w0 wr R HS.out qG qG qG hsz;go_wp2_with fail
    refine cS.mono ?_;rintro e w2 ⟨rfl,d',h1,h2,h3⟩;have HN:=qK (And.intro (HP.out.1.first hij qG h1) (permIn_trans _ _ _ _ _ HP.out.2 (permIn_mono _ _ _ _ _ _ qG qG qG h2)));have H3:=qK h3;have hs':d'.size=d.size:=by rw[h1.1,hds]
    clear h1 h2 h3 cS;go_wp2;go_roundw
    case rel=>exact⟨i-j,j,d',by omega,by omega,by omega,by omega,by first | rfl | go_num,rfl,hs',HN,H3⟩
    case measure=>simp[intOf];omega
   ·have hij':¬ (j:Int) < (i:Int):=by omega
    have wji:IntKind.i64.wrap ((j:Int)-(i:Int))=((j-i:Nat):Int):=by rw[IntKind.wrap_i64];omega
    have wmji:IntKind.i64.wrap (((m+j:Nat):Int)-(i:Int))=((m+j-i:Nat):Int):=by rw[IntKind.wrap_i64];omega
    have wmji2:IntKind.i64.wrap ((m:Int)+(j:Int)-(i:Int))=((m+j-i:Nat):Int):=by rw[IntKind.wrap_i64];omega
    have wmj2:IntKind.i64.wrap ((m:Int)+(j:Int))=(m:Int)+(j:Int):=by rw[IntKind.wrap_i64];omega
    have cS:=zN7 blk off cap (m-i) (m+j-i) i d0 dk f w0 wr R HS.out qG qG qG hsz;go_wp2_with fail
    refine cS.mono ?_;rintro e w2 ⟨rfl,d',h1,h2,h3⟩;have HN:=qK (And.intro (HP.out.1.second qG qG h1) (permIn_trans _ _ _ _ _ HP.out.2 (permIn_mono _ _ _ _ _ _ qG qG qG h2)));have H3:=qK h3;have hs':d'.size=d.size:=by rw[h1.1,hds]
    clear h1 h2 h3 cS;go_wp2;go_roundw
    case rel=>exact⟨i,j-i,d',by omega,by omega,by omega,by omega,rfl,by first | rfl | go_num,hs',HN,H3⟩
    case measure=>simp[intOf];omega
end Go.Proofs.YtdgehhgjgifikaaGreatDoor
