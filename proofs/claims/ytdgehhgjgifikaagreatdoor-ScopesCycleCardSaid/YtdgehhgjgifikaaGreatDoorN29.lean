/- What the claim needs of:ZJ ZK ZL. -/
import Derived.Test.YtdgehhgjgifikaaGreatDoorN28
import Derived.StillTailTactics
import Derived.Laws.EntriesVeiled
namespace Go.Proofs.YtdgehhgjgifikaaGreatDoor
open Go.RowKit Go.Sort Go.Shelf
theorem yT6 (a:Int)(w:World):Calls Tryz.prog 78 #[.int .i64 a] w fun e w'=>e=.returned (.bool false)∧w'=w:=by
 go_enter Tryz.func78,Tryz.ntmps78
 go_wp2
 go_ret
 exact⟨rfl,rfl⟩
def cmpI (a b:Int):Int:=if a < b then -1 else if b < a then 1 else 0
theorem zE4 (a b:Int)(w:World):Calls Tryz.prog 44 #[.int .i64 a,.int .i64 b] w fun e w'=>e=.returned (.int .i64 (cmpI a b))∧w'=w:=by
 unfold cmpI
 by_cases h1:a < b
 ·rw[if_pos h1]
  go_enter Tryz.func44,Tryz.ntmps44
  go_wp2_with (go_at_call 78;refine(yT6 _ _).mono ?_;rintro e w' ⟨rfl,rfl⟩)
  go_ret
  exact⟨rfl,rfl⟩
 ·rw[if_neg h1]
  by_cases h2:b < a
  ·rw[if_pos h2]
   go_enter Tryz.func44,Tryz.ntmps44
   go_wp2_with (go_at_call 78;refine(yT6 _ _).mono ?_;rintro e w' ⟨rfl,rfl⟩)
   go_ret
   exact⟨rfl,rfl⟩
  ·rw[if_neg h2]
   go_enter Tryz.func44,Tryz.ntmps44
   go_wp2_with (go_at_call 78;refine(yT6 _ _).mono ?_;rintro e w' ⟨rfl,rfl⟩)
   go_ret
   exact⟨rfl,rfl⟩
theorem ucmp_eq (x y:Us):ucmp x y=cmpI x.pos y.pos:=rfl
set_option maxRecDepth 100000 in
theorem cmpU_any (x y:Us)(w:World):Calls Tryz.prog 43 #[.agg (encU x).toArray,.agg (encU y).toArray] w fun e w'=>e=.returned (.int .i64 (ucmp x y))∧BelowD w.heap.size w w':=by
 have hb:=(((BelowD.refl w.heap.size w).alloc (Nat.le_refl _) (.cells (encU x).toArray 52)).alloc (by simp) (.cells (encU y).toArray 52))
 have HB:=Lib.hid hb
 have V1:=(Blk.new w 52 (encU x).toArray).alloc (.cells (encU y).toArray 52)
 have V2:=Blk.new (w.alloc (.cells (encU x).toArray 52)) 52 (encU y).toArray
 rw[World.size_alloc] at V2
 rw[ucmp_eq]
 obtain⟨f1,p1,n1,k1,d1⟩:=x
 obtain⟨f2,p2,n2,k2,d2⟩:=y
 dsimp only[encU] at V1 V2 HB ⊢
 have v1:=V1.cell 1
 have v2:=V2.cell 1
 clear V1 V2 hb
 go_enter Tryz.func43,Tryz.ntmps43
 go_upto_region 1 with fail
 go_wp2_with (go_at_call 44;refine(zE4 _ _ _).mono ?_;rintro e w' ⟨rfl,rfl⟩)
 go_ret
 exact⟨rfl,HB.out⟩
theorem stU_eq (l:List Us):stU l=stF (ltOf ucmp) l:=by
 unfold stU stF zJ1
 have e:∀ (x:Us),(fun y:Us=>!ltOf ucmp x y)=fun y=>decide (y.pos≤x.pos):=fun x=>funext fun y=>by
  rw[yU6,Bool.eq_iff_iff]
  simp
 simp only[e]
theorem yT7 {α:Type} [Inhabited α] {enc:α→List Value}{k:Nat}{w:World}{blk off m:Nat}{dk:Array α}{os:Array Obj}(_h2:blk < w.heap.size):Kp (· = blk) w (sortWorldK enc k w blk off m dk os):=by
 refine⟨rfl,rfl,rfl,size_sortWorldK_c enc k w blk off m dk os,fun i hi hn=>?_⟩
 unfold sortWorldK
 rw[heap_grow_old _ _ (by rw[size_putRowK];show i < w.heap.size;omega)]
 unfold putRowK putRow mapBlock
 simp only[Array.getElem?_modify]
 rw[if_neg (fun e=>hn e.symm)]
 rfl
theorem xY7 (A:Option Addr)(c:Nat)(f:Value)(w:World):Calls Tryz.prog 114 #[.slice A 0 c,.int .i64 0,.int .i64 0,f] w fun e w'=>e=.returned (.tuple #[])∧w'=w:=by
 go_enter Tryz.func114,Tryz.ntmps114
 go_wp2
 go_loopw [8] (fun i wr=>i=.int .i64 1∧wr=w) (fun _ _=>0)
 case atStart=>exact⟨rfl,rfl⟩
 case round=>
  obtain⟨rfl,rfl⟩:=hrel
  go_wp2
  go_end0
  exact⟨rfl,by first | rfl | trivial⟩
set_option maxRecDepth 100000 in
theorem yO1 (A:Option Addr)(c:Nat)(f:Value)(w:World):Calls Tryz.prog 77 #[.slice A 0 c,.int .i64 0,f] w fun e w'=>e=.returned (.tuple #[])∧w'=w:=by
 have cI:=Lib.hid (xY7 A c f w)
 go_enter Tryz.func77,Tryz.ntmps77
 go_wp2
 go_loopw [7,8] (fun a b wr=>a=.int .i64 0∧b=.int .i64 20∧wr=w) (fun _ _ _=>0)
 case atStart=>exact⟨rfl,rfl,rfl⟩
 case round=>
  obtain⟨rfl,rfl,rfl⟩:=hrel
  go_wp2_with fail
  refine cI.out.mono ?_
  rintro e w2 ⟨rfl,rfl⟩
  clear cI
  go_wp2
  go_loopw [6] (fun b wq=>b=.int .i64 20∧wq=w2) (fun _ _=>0)
  case atStart=>exact⟨rfl,rfl⟩
  case round=>
   obtain⟨rfl,rfl⟩:=hrel
   go_wp2
   go_end0
   exact⟨rfl,by first | rfl | trivial⟩
def RetSU (w:World)(v:Value)(l:List Us)(e:Ending)(w':World):Prop:=
 e=.returned (.tuple #[])∧(∃ A c,v=.slice A l.length c∧Sl w' w'.heap.size 5 encU A (stU l))∧Kp (fun b=>v.ownBlock=some b) w w'
theorem yL7 {w:World}{v:Value}{l:List Us}(h:w.ownsRow 0 52 5 v l.length (l.flatMap encU))(hv:v≠.slice none 0 0):∃ g cap,v=.slice (some ⟨g,0,none⟩) l.length cap∧g < w.heap.size∧HoldsK encG 5 w g 0 l.zipIdx.toArray:=by
 have e:l.zipIdx.flatMap encG=l.flatMap encU:=by
  have:l.zipIdx.flatMap encG=(l.zipIdx.map (·.1)).flatMap encU:=by
   rw[List.flatMap_map]
   rfl
  rw[this]
  simp
 have h2:w.ownsRow 0 52 5 v l.zipIdx.length (l.zipIdx.flatMap encG):=by rw[e,List.length_zipIdx];exact h
 obtain⟨g,cap,h3,_,h4,h5⟩:=zK2 yU7 h2 hv
 rw[List.length_zipIdx] at h3
 exact⟨g,cap,h3,h4,h5⟩
set_option maxRecDepth 100000 in
theorem yL8 (v:Value)(l:List Us)(w:World)(h:w.ownsRow 0 52 5 v l.length (l.flatMap encU))(hl:l.length≤1048576) :
  Calls Tryz.prog 77 #[v,.int .i64 (l.length:Nat),.func (.func 43) #[] #[]] w (RetSU w v l):=by
 by_cases hv:v=.slice none 0 0
 ·subst hv
  have hl0:l=[]:=by
   rcases h.2 with ⟨_,h0⟩ | ⟨g,cap,cur,h,_⟩
   ·exact List.eq_nil_of_length_eq_zero h0
   ·cases h
  subst hl0
  refine(yO1 none 0 _ w).mono ?_
  rintro e w' ⟨rfl,rfl⟩
  exact⟨rfl,⟨none,0,rfl,.inl rfl⟩,Kp.refl _ _⟩
 ·obtain⟨g,cap,rfl,hlt,hH⟩:=yL7 h hv
  have hq:=yL4 43 Tryz.call43 (fun x y W=>cmpU_any x.1 y.1 W) g 0 cap l.zipIdx.toArray w ⟨yU7,xZ9,hH,hlt⟩ (by simpa using hl) (fun z z' h1 h2=>by
   have h2':z' < l.length:=by simpa using h2
   rw[getElem!_pos _ z (by simp;omega),getElem!_pos _ z' (by simp;omega)]
   simp[ixG]
   exact h1)
  have hs:l.zipIdx.toArray.size=l.length:=by simp
  rw[hs] at hq
  refine hq.mono ?_
  rintro e w' ⟨rfl,d',hsz,hsr,hp,n,os,rfl⟩
  have hperm:d'.toList.Perm l.zipIdx:=zK3 (by simpa using hp)
  have hpw:d'.toList.Pairwise (lexP (ltOf ucmp)):=by
   have:=zR7 hsr hsz
   exact this
  have hst:=yT5 ult_swo hperm hpw
  refine⟨rfl,⟨_,cap,rfl,?_⟩,(yT7 hlt).mono fun i hi=>by subst hi;rfl⟩
  rw[stU_eq,←hst]
  have hsl:Sl (sortWorldK encG 5 w g 0 n d' os) (sortWorldK encG 5 w g 0 n d' os).heap.size 5 encG (some ⟨g,0,none⟩) d'.toList:=by
   refine zF5 yU7 (l:=d'.toList) (by have:=holdsK_sortWorldK_c encG 5 w g 0 l.zipIdx.toArray d' n os hH hlt (by simpa using hsz);simpa using this) ?_
   exact Nat.lt_of_lt_of_le hlt (size_sortWorldK_c encG 5 w g 0 n _ os)
  rcases hsl with h0 | ⟨b,o,hA,hb,hc⟩
  ·left
   rw[h0]
   rfl
  ·refine .inr ⟨b,o,hA,hb,fun i hi j u hu=>?_⟩
   rw[List.length_map] at hi
   have:=hc i hi j u (by rw[List.getElem_map] at hu;exact hu)
   exact this
theorem xY8 (v:Value)(l:List Us)(w:World)(h:w.ownsRow 0 52 5 v l.length (l.flatMap encU))(hl:l.length≤1048576) :
  Calls Tryz.prog 42 #[v,.func (.func 43) #[] #[]] w (RetSU w v l):=by
 have cS:=Lib.hid (yL8 v l w h hl)
 obtain⟨A,c,rfl⟩:=zV2 h
 generalize hQ:RetSU w (.slice A l.length c) l=Q at cS
 have HQ:=Lib.hid hQ
 clear hQ h
 go_enter Tryz.func42,Tryz.ntmps42
 go_wp2_with fail
 refine cS.out.mono ?_
 intro e w2 hq
 have HQ2:=Lib.hid hq
 have hr:e=.returned (.tuple #[]):=by
  have h:=HQ2.out
  rw[←HQ.out] at h
  exact h.1
 subst hr
 clear hq cS
 go_wp2
 go_end0
 exact HQ2.out
section
variable {X X':Type}{R:RF}{C:Clo X}{C':Clo X'}{n s:Nat}{σ:GS X}{Im:Nat→Prop}{w w' wy:World}
def GS.bare (σ:GS X):GS Unit:=⟨σ.ρ,σ.av,σ.en,()⟩
theorem St.bare (h:St R C n s σ Im w):St R clo0 n s σ.bare Im w:=
 ⟨h.rs,h.al,trivial,⟨fun b hb=>h.zo.mu b (by
  rcases hb with h1 | h1 | h1 | h1 | h1
  ·exact .inl h1
  ·exact .inr (.inl h1)
  ·exact .inr (.inr (.inl h1))
  ·exact .inr (.inr (.inr (.inl h1)))
  ·exact h1.elim),h.zo.im⟩,fun b hb=>hb.elim,h.am,h.im,h.lo,by have:=h.bu;show 0+_≤_;have e:σ.bare.ρ=σ.ρ:=rfl;rw[e];omega,h.lv⟩
theorem St.loose (h:St R C n s σ Im w){b:Nat}(hb:C.M σ.x b):Mine (zn R clo0 σ.bare Im) w b:=by
 have hm:(zn R C σ Im).Mut b:=.inr (.inr (.inr (.inr hb)))
 refine⟨(h.zo.mu b hm).1,?_,(h.zo.mu b hm).2⟩
 obtain⟨h1,h2,h3,h4⟩:=h.cm b hb
 rintro(e | e | ⟨o,ho,e⟩ | e | e)
 ·exact h1 e
 ·exact h2 e
 ·exact h3 o ho e
 ·exact h4 e
 ·exact e
theorem Mine.bare {b:Nat}(h:Mine (zn R C σ Im) w b):Mine (zn R clo0 σ.bare Im) w b:=⟨h.1,fun hm=>h.2.1 (by
  rcases hm with h1 | h1 | h1 | h1 | h1
  ·exact .inl h1
  ·exact .inr (.inl h1)
  ·exact .inr (.inr (.inl h1))
  ·exact .inr (.inr (.inr (.inl h1)))
  ·exact h1.elim),h.2.2⟩
def RF.with_ (R:RF)(u:Value):RF:={R with use:=u}
def GS.put (σ:GS X)(x':X'):GS X':=⟨σ.ρ,σ.av,σ.en,x'⟩
theorem St.swap {σ:GS Unit}(h:St R clo0 n s σ Im w){x':X'}(u:Value)(hk:Kp (fun b=>b=R.r) w w')
  (hrc:Blk w' R.r 86 #[.string ⟨R.path.toArray⟩,.slice R.FA R.nF R.cF,.pointer (some ⟨R.root,0,none⟩),.slice R.Ai R.iB.length R.ci,.slice R.Au R.uB.length R.cu,σ.av,.bool σ.ρ.twice,.bool σ.ρ.cyc,u])
  (hAt:C'.At x' w')(hM:∀ b,C'.M x' b→w.heap.size≤b∧b < w'.heap.size)(hct:C'.ct x'=0):St (R.with_ u) C' n s (σ.put x') Im w':=by
 have hs:=hk.size
 have hiN:∀ b,Im b→¬ b=R.r:=fun b hb e=>(h.zo.mu b (.inl e)).2 hb
 refine⟨⟨hrc,Nat.lt_of_lt_of_le h.rs.rl hs,?_,(h.rs.ob.kept hk fun o ho e=>zS7 (h.rs.ob.at_ o ho) h.rs.rc (by decide) e).more hs⟩,zV5 h.al hk (fun b hb e=>(h.am b hb).1 e),hAt,⟨fun b hb=>?_,fun b hb=>Nat.lt_of_lt_of_le (h.zo.im b hb) hs⟩,fun b hb=>?_,h.am,h.im,fun o ho=>(h.lo o ho).kept hk hiN (fun _ h=>h),?_,h.lv⟩
 ·have hm:=(h.rs.mp.keptA hk (imN h.im.1 hiN) (imN h.im.2.1 hiN) (fun b hb=>hiN b (h.im.2.2 b hb)) (fun b hb e=>yA9 h.rs.rc h.rs.mp.mu b hb e)).more hs
  exact⟨hm.im,hm.us,hm.li,hm.lu,hm.lb,hm.iB,hm.uB,hm.nu,hm.di,hm.mi,hm.mu,hm.su,hm.sl⟩
 ·have hold:(zn R clo0 σ Im).Mut b∨(w.heap.size≤b∧b < w'.heap.size):=by
   rcases hb with h1 | h1 | h1 | h1 | h1
   ·exact .inl (.inl h1)
   ·exact .inl (.inr (.inl h1))
   ·exact .inl (.inr (.inr (.inl h1)))
   ·exact .inl (.inr (.inr (.inr (.inl h1))))
   ·exact .inr (hM b h1)
  rcases hold with h1 | ⟨h1,h2⟩
  ·exact⟨Nat.lt_of_lt_of_le (h.zo.mu b h1).1 hs,(h.zo.mu b h1).2⟩
  ·exact⟨h2,fun hi=>by have:=h.zo.im b hi;omega⟩
 ·have h1:=(hM b hb).1
  refine⟨fun e=>?_,fun hu=>?_,fun o ho e=>?_,fun ha=>?_⟩
  ·have:=h.rs.rl
   have e':b=R.r:=e
   omega
  ·have:=h.rs.mp.uB b hu;omega
  ·have:=h.rs.ob.lt o ho;omega
  ·have:=(zR6 h.al b ha).2;omega
 ·have:=h.bu
  have e:clo0.ct σ.x=0:=rfl
  rw[e] at this
  show C'.ct x'+(σ.ρ.all.length+wObs σ.ρ.objs+s)≤_
  rw[hct]
  exact this
end
structure Btw (w1:World)(p:PA)(s:Nat)(R:RF)(env:List ScA)(σ:GS Unit)(Im:Nat→Prop)(wx:World):Prop where
 st:St R clo0 1099511627776 s σ Im wx
 pk:PkI Im wx R p.files
 en:EnvI Im wx (.pointer (some ⟨R.root,0,none⟩)) env
 kn:EnvK σ.ρ.objs env
 old:∀ b,b < w1.heap.size→Im b
 nu:R.uB.length=p.files.length
 lo:Below w1.heap.size w1 wx
structure OutU (w1:World)(R:RF)(v:Value)(l:List Us)(σ:GS Unit)(Im:Nat→Prop)(wx:World):Prop where
 ac:Acc wx 0 52 5 v l.length (l.flatMap encU)
 ma:∀ b,v.ownBlock=some b→Mine (zn R clo0 σ Im) wx b∧w1.heap.size≤b
section
variable {w1 wx wy:World}{p:PA}{s:Nat}{R:RF}{env:List ScA}{σ:GS Unit}{Im:Nat→Prop}{v:Value}{l:List Us}{N:Nat→Prop}
theorem Btw.write (h:Btw w1 p s R env σ Im wx)(hk:Kp N wx wy)(hN:∀ b,N b→w1.heap.size≤b∧¬ (zn R clo0 σ Im).Mut b∧¬ Im b):Btw w1 p s R env σ Im wy:=by
 have hi:∀ b,Im b→¬ N b:=fun b hb hn=>(hN b hn).2.2 hb
 exact⟨h.st.kept hk fun b hb=>(hN b hb).2,h.pk.kept hk hi (fun _ h=>h),h.en.kept hk hi (fun _ h=>h),h.kn,h.old,h.nu,h.lo.trans (hk.toBelow h.lo.size fun i hi hn=>by have:=(hN i hn).1;omega)⟩
theorem Btw.below (h:Btw w1 p s R env σ Im wx)(hb:Below wx.heap.size wx wy):Btw w1 p s R env σ Im wy:=h.write (N:=fun _=>False) (Kp.ofBelow hb _) fun _ h=>h.elim
theorem Btw.less {s':Nat}(h:Btw w1 p s R env σ Im wx)(hs:s'≤s):Btw w1 p s' R env σ Im wx:=⟨h.st.less hs (Nat.le_refl _),h.pk,h.en,h.kn,h.old,h.nu,h.lo⟩
theorem OutU.nil_:OutU w1 R (.slice none 0 0) [] σ Im wx:=⟨Acc.nil_ _ _ _ _,fun b hb=>(by cases hb)⟩
theorem OutU.write (h:OutU w1 R v l σ Im wx)(hk:Kp N wx wy)(hN:∀ b,v.ownBlock=some b→¬ N b):OutU w1 R v l σ Im wy:=⟨zL8 h.ac hk hN,fun b hb=>⟨(h.ma b hb).1.up hk.size,(h.ma b hb).2⟩⟩
theorem OutU.below (h:OutU w1 R v l σ Im wx)(hb:Below wx.heap.size wx wy):OutU w1 R v l σ Im wy:=h.write (N:=fun _=>False) (Kp.ofBelow hb _) fun _ _ h=>h
end
theorem LoadOk.btw {w1 wx:World}{p:PA}{s:Nat}{R:RF}{σ0 σ:GS Unit}{env:List ScA}{Im:Nat→Prop}(h:LoadOk w1.heap.size w1 p s R σ0 σ env Im wx)(hb:Below w1.heap.size w1 wx):Btw w1 p s R env σ Im wx:=⟨h.st,h.pk,h.en,h.kn,h.old,h.nu,hb⟩
def zM5 (us:List Us)(err:Int)(w:World)(e:Ending)(w':World):Prop:=
 ∃ A c,e=.returned (.tuple #[.slice A us.length c,.int .i64 err])∧Sl w' w'.heap.size 5 encU A us∧us.length≤1099511627776∧Below w.heap.size w w'∧∀ a,us≠[]→A=some a→w.heap.size≤a.block
theorem zI7 {rx:Tx→Bool}{p:PA}(h:zV0 rx p≠0):errP rx (plP p)=zV0 rx p:=by
 unfold errP zV0 at *
 have e:(plP p).files=p.files.map plF:=rfl
 rw[e,List.find?_map]
 have e2:((fun f=>decide (errF rx f≠0)) ∘ plF)=fun f=>decide (errF rx (plF f)≠0):=rfl
 rw[e2]
 cases hf:p.files.find? (fun f=>decide (errF rx (plF f)≠0)) with
 | some f=>rfl
 | none=>
   rw[hf] at h
   simp only at h
   simp only[Option.map_none]
   have e3:(p.files.map plF).any (fun f=>decide (f.pkg≠((p.files.map plF).headD ⟨[],[],[],[]⟩).pkg))=p.files.any fun f=>decide (f.pkg≠(p.files.map (·.pkg)).headD []):=by
    rw[List.any_map]
    cases p.files with
    | nil=>rfl
    | cons x l=>rfl
   rw[e3]
   by_cases hc:(p.files.any fun f=>decide (f.pkg≠(p.files.map (·.pkg)).headD []))=true
   ·rw[if_pos hc,if_pos hc]
   ·rw[if_neg hc] at h
    exact absurd rfl h
theorem zN4 {rx:Tx→Bool}{p:PA}(h:zV0 rx p=0):errP rx (plP p)=if yJ9 (plP p).files then 6 else 0:=by
 unfold errP zV0 at *
 have e:(plP p).files=p.files.map plF:=rfl
 rw[e,List.find?_map]
 have e2:((fun f=>decide (errF rx f≠0)) ∘ plF)=fun f=>decide (errF rx (plF f)≠0):=rfl
 rw[e2]
 cases hf:p.files.find? (fun f=>decide (errF rx (plF f)≠0)) with
 | some f=>
   rw[hf] at h
   have:=List.find?_some hf
   simp only at h
   simp[h] at this
 | none=>
   rw[hf] at h
   simp only at h
   simp only[Option.map_none]
   have e3:(p.files.map plF).any (fun f=>decide (f.pkg≠((p.files.map plF).headD ⟨[],[],[],[]⟩).pkg))=p.files.any fun f=>decide (f.pkg≠(p.files.map (·.pkg)).headD []):=by
    rw[List.any_map]
    cases p.files with
    | nil=>rfl
    | cons x l=>rfl
   rw[e3]
   by_cases hc:(p.files.any fun f=>decide (f.pkg≠(p.files.map (·.pkg)).headD []))=true
   ·rw[if_pos hc] at h
    cases h
   ·rw[if_neg hc]
theorem yO2 (fs:List Fl):∀ (l:List Fl)(j:Nat)(f:Fl),usFs fs j (l++ [f])=usFs fs j l++stU (uDs (yD1 fs) f.decls [zT5 fs] [] (j+l.length))
 | [],j,f=>by simp[usFs]
 | x ::l,j,f=>by
   have e:j+1+l.length=j+(x ::l).length:=by rw[List.length_cons];omega
   rw[List.cons_append,usFs,usFs,yO2 fs l (j+1) f,List.append_assoc,e]
theorem yX3 {p:PA}{R:RF}{σ0:GS Unit}{env:List ScA}(h:Root p R σ0 env):env.map shA=[zT5 (plP p).files]∧R.imps=yD1 (plP p).files:=by
 obtain⟨bF,bL,rfl⟩:=h.ev
 refine⟨?_,?_⟩
 ·show [shA _]=[zT5 (p.files.map plF)]
  rw[zG6]
  unfold shA zL9
  have hl:(zZ8 p.files).length=(σ0.ρ.objs.map (·.blk)).length:=by
   have:=congrArg List.length h.o2
   rw[List.length_map] at this
   rw[List.length_map,this,zZ8,List.length_map,←zI5 p.files 0,List.length_map]
  simp only
  rw[List.map_fst_zip (by omega)]
 ·rw[h.im]
  unfold zX5 yD1 plP
  rw[List.map_map]
  rfl
theorem xY9 (l:List Us):(stU l).length=l.length:=by
 rw[stU_eq]
 have:=(yT4 (lt:=ltOf ucmp) l []).length_eq
 simpa[stF] using this
theorem Btw.visit {w1 wr wS w3:World}{p:PA}{s bx i:Nat}{R:RF}{u f:Value}{env:List ScA}{σi:GS Unit}{Imi Im':Nat→Prop}{outv:Value}{outl:List Us}{σ':GS (Value × List Us)}{l':List DA}{fa:FA}
  (hB:Btw w1 p s (R.with_ u) env σi Imi wr)(hO:OutU w1 (R.with_ u) outv outl σi Imi wr)(hkS:Kp (fun b=>b=R.r) wr wS)(hbx:bx=wr.heap.size)(_hbS:bx < wS.heap.size)
  (_hV:zX7 (R.with_ f) (UU bx) fa.decls env [] i (σi.put (Value.slice none 0 0,[])) σ' l'){s':Nat}(hS:St (R.with_ f) (cloU bx) 1099511627776 s' σ' Im' w3)(hSt:St (R.with_ f) (cloU bx) 1099511627776 s (σi.put (Value.slice none 0 0,[])) Imi wS)(hQ:Sp (zn (R.with_ f) (cloU bx) (σi.put (Value.slice none 0 0,[])) Imi) wS (zn (R.with_ f) (cloU bx) σ' Im') w3)(hG:Gr wS (σi.put (Value.slice none 0 0,[])) σ') :
  Btw w1 p s' (R.with_ f) env σ'.bare Im' w3∧OutU w1 (R.with_ f) outv outl σ'.bare Im' w3∧(∀ b,outv.ownBlock=some b→¬ (cloU bx).M σ'.x b)∧∀ b,(cloU bx).M σ'.x b→Mine (zn (R.with_ f) clo0 σ'.bare Im') w3 b∧w1.heap.size≤b:=by
 have hN:∀ b,Imi b→¬ (zn (R.with_ f) (cloU bx) (σi.put (Value.slice none 0 0,[])) Imi).Mut b:=fun b hb hm=>(hSt.zo.mu b hm).2 hb
 have hrN:∀ b,Imi b→¬ b=R.r:=fun b hb e=>(hB.st.zo.mu b (.inl e)).2 hb
 have hol:Below w1.heap.size w1 w3:=(hB.lo.trans (hkS.toBelow hB.lo.size fun b hb e=>hrN b (hB.old b hb) e)).trans (hQ.kp.toBelow (Nat.le_trans hB.lo.size hkS.size) fun b hb hm=>hN b (hB.old b hb) hm)
 have hold:∀ b,b < w1.heap.size→Im' b:=fun b hb=>hQ.im b (hB.old b hb)
 have hmine:∀ b,outv.ownBlock=some b→Mine (zn (R.with_ f) (cloU bx) (σi.put (Value.slice none 0 0,[])) Imi) wS b:=fun b hb=>by
  obtain⟨⟨h1,h2,h3⟩,_⟩:=hO.ma b hb
  refine⟨Nat.lt_of_lt_of_le h1 hkS.size,?_,h3⟩
  rintro(e | e | e | e | e)
  ·exact h2 (.inl e)
  ·exact h2 (.inr (.inl e))
  ·exact h2 (.inr (.inr (.inl e)))
  ·exact h2 (.inr (.inr (.inr (.inl e))))
  ·rcases e with e | e
   ·omega
   ·cases e
 have hp:=(hB.pk.kept hkS hrN (fun _ h=>h)).kept hQ.kp hN hQ.im
 refine⟨⟨hS.bare,⟨hp.len,hp.sl,hp.ds,hp.ts⟩,(hB.en.kept hkS hrN (fun _ h=>h)).kept hQ.kp hN hQ.im,?_,hold,hB.nu,hol⟩,⟨zL8 (zL8 hO.ac hkS fun b hb e=>(hO.ma b hb).1.2.1 (.inl e)) hQ.kp fun b hb=>(hmine b hb).2.1,fun b hb=>⟨(hQ.own (hmine b hb)).bare,(hO.ma b hb).2⟩⟩,fun b hb hm=>(hQ.own (hmine b hb)).2.1 (.inr (.inr (.inr (.inr hm)))),fun b hb=>⟨hS.loose hb,?_⟩⟩
 ·have h1:EnvK (σi.put (Value.slice none 0 0,([]:List Us))).ρ.objs env:=hB.kn
  exact h1.gr hG
 ·rcases Nat.lt_or_ge b w1.heap.size with h1 | h1
  ·exact absurd (hold b h1) (hS.loose hb).2.2
  ·exact h1
set_option maxRecDepth 100000 in
set_option maxHeartbeats 8000000 in
theorem yI0 (rx:Tx→Bool)(p:PA)(w:World)(hP:PkL w p)(hR:∀ f∈p.files,PatDs (RxOk rx) (plDs f.decls))(hG:Glob w)(hs:(∀ f∈p.files,errF rx (plF f)=0)→wF p.files+((p.files.map fun f=>vDs f.decls).sum+(p.files.map fun f=>vDs f.decls).sum)≤1099511627776)
  (hu:∀ f∈p.files,∀ im env lp i,(uDs im (plDs f.decls) env lp i).length≤1048576) :
  Calls Tryz.prog 14 #[.agg #[.string ⟨p.path.toArray⟩,.slice p.A p.files.length p.c]] w (zM5 (zS9 rx (plP p)).1 (zS9 rx (plP p)).2 w):=by
 have hbw:=(Below.refl w.heap.size w).alloc (Nat.le_refl _) (.cells #[.string ⟨p.path.toArray⟩,.slice p.A p.files.length p.c] 24)
 have HB0:=Lib.hid (Blk.new w 24 #[.string ⟨p.path.toArray⟩,.slice p.A p.files.length p.c])
 have HW:=Lib.hid hbw
 have hnf:=hP.nf
 have cL:=Lib.hid (yU4 rx p ((p.files.map fun f=>vDs f.decls).sum) (w.alloc (.cells #[.string ⟨p.path.toArray⟩,.slice p.A p.files.length p.c] 24)) (hP.keep hbw) hR (hG.keep hbw) hs)
 have HU:=Lib.hid hu
 clear hP hR hG hs hbw hu
 go_enter Tryz.func14,Tryz.ntmps14
 go_upto_region 1 with fail
 generalize w.alloc (.cells #[.string ⟨p.path.toArray⟩,.slice p.A p.files.length p.c] 24)=w1 at HB0 HW cL ⊢
 have b0:=HB0.out.cell 0
 have b1:=HB0.out.cell 1
 go_wp2_with fail
 refine cL.out.mono ?_
 rintro e w2 ⟨hb2,h⟩
 clear b0 b1 cL
 have HB2:=Lib.hid hb2
 rcases h with ⟨h0,rfl⟩ | ⟨h0,hok,R,σ0,σ,env,rs,hRt,hV,h⟩
 ·have HE:=Lib.hid (zI7 h0)
  have H0:=Lib.hid h0
  generalize zV0 rx p=ee at h0 HE H0 ⊢
  have HR:=Lib.hid (show zM5 (zS9 rx (plP p)).1 (zS9 rx (plP p)).2 w (.returned (.tuple #[.slice none 0 0,.int .i64 ee])) w2 from by
   have e:zS9 rx (plP p)=([],ee):=by unfold zS9;rw[if_pos (by rw[HE.out];exact H0.out),HE.out]
   rw[e]
   exact⟨none,0,rfl,.inl rfl,Nat.zero_le _,HW.out.trans (HB2.out.mono HW.out.size),fun a h _=>absurd rfl h⟩)
  go_wp2
  refine bodyPost_ret (v:=.tuple #[.slice none 0 0,.int .i64 ee]) (by simp[results,Tryz.results14,go_sem]) rfl HR.out
 ·have ht:=zP2 hRt hV
  have hE:=zN4 h0
  rw[←ht] at hE
  rcases h with ⟨h6,rfl⟩ | ⟨h6,rfl,Im,hO⟩
  ·rw[h6,if_pos rfl] at hE
   have HR:=Lib.hid (show zM5 (zS9 rx (plP p)).1 (zS9 rx (plP p)).2 w (.returned (.tuple #[.slice none 0 0,.int .i64 6])) w2 from by
    have e:zS9 rx (plP p)=([],6):=by unfold zS9;rw[if_pos (by rw[hE];decide),hE]
    rw[e]
    exact⟨none,0,rfl,.inl rfl,Nat.zero_le _,HW.out.trans (HB2.out.mono HW.out.size),fun a h _=>absurd rfl h⟩)
   clear h0 hok hRt hV ht hE h6 hb2
   go_wp2
   refine bodyPost_ret (v:=.tuple #[.slice none 0 0,.int .i64 6]) (by simp[results,Tryz.results14,go_sem]) rfl HR.out
  ·rw[h6,if_neg (by decide)] at hE
   have HE:=Lib.hid (show zS9 rx (plP p)=(usFs (p.files.map plF) 0 (p.files.map plF),0) from by unfold zS9;rw[if_neg (by rw[hE];decide)];rfl)
   have HRt:=Lib.hid hRt
   have HBt:=Lib.hid (show Btw w1 p ((p.files.map fun f=>vDs f.decls).sum) (R.with_ R.use) env σ Im w2 from hO.btw hb2)
   have HLv:=Lib.hid (yU3 hok)
   clear h0 hok hRt hV ht hE h6 hO hb2
   have b1:=(HB0.out.keep HB2.out).cell 1
   go_upto_region 6 with fail
   clear b1
   go_loopw [6,20] (fun vv iv wq=>∃ (i:Nat) (u:Value) (σi:GS Unit) (Imi:Nat→Prop) (Ao:Option Addr) (lo co:Nat),i≤p.files.length∧iv=.int .i64 (i:Nat)∧vv=.slice Ao lo co∧Hid (lo=(usFs (p.files.map plF) 0 ((p.files.take i).map plF)).length)∧Hid (lo≤i*1048576)∧Hid (Btw w1 p (((p.files.drop i).map fun f=>vDs f.decls).sum) (R.with_ u) env σi Imi wq)∧Hid (OutU w1 (R.with_ u) (.slice Ao lo co) (usFs (p.files.map plF) 0 ((p.files.take i).map plF)) σi Imi wq)) (fun _ iv _=>p.files.length-(intOf iv).toNat)
   case atStart=>exact⟨0,R.use,σ,Im,none,0,0,Nat.zero_le _,rfl,rfl,Lib.hid rfl,Lib.hid (Nat.zero_le _),by simpa using HBt,Lib.hid OutU.nil_⟩
   case round=>
    obtain⟨i,u,σi,Imi,Ao,lo,co,hi,rfl,rfl,HLo,HLc,Bi,Oi⟩:=hrel
    by_cases hlt:i < p.files.length
    ·have hlt':(i:Int) < (p.files.length:Int):=by omega
     have hba:=(Below.refl wr.heap.size wr).alloc (Nat.le_refl _) (.cells #[.slice none 0 0] 27)
     have hrb:Blk (wr.alloc (.cells #[.slice none 0 0] 27)) R.r 86 #[.string ⟨R.path.toArray⟩,.slice R.FA R.nF R.cF,.pointer (some ⟨R.root,0,none⟩),.slice R.Ai R.iB.length R.ci,.slice R.Au R.uB.length R.cu,σi.av,.bool σi.ρ.twice,.bool σi.ρ.cyc,u]:=Bi.out.st.rs.rc.keep hba
     have r8:=hrb.cell 8
     have f8:=hrb.free 8
     have HRb:=Lib.hid hrb
     have HBx:=Lib.hid (Blk.new wr 27 #[.slice none 0 0])
     clear hba hrb
     obtain⟨bx,hbx⟩:∃ bx,bx=wr.heap.size:=⟨_,rfl⟩
     have hkS:Kp (fun b=>b=R.r) wr ((wr.alloc (.cells #[.slice none 0 0] 27)).setCell ⟨R.r,8,none⟩ (.func (.func 40) #[] #[.pointer (some ⟨bx,0,none⟩)])):=((Kp.refl (fun b=>b=R.r) wr).alloc _).setCell (p:=⟨R.r,8,none⟩) rfl _
     have hrS:Blk ((wr.alloc (.cells #[.slice none 0 0] 27)).setCell ⟨R.r,8,none⟩ (.func (.func 40) #[] #[.pointer (some ⟨bx,0,none⟩)])) R.r 86 #[.string ⟨R.path.toArray⟩,.slice R.FA R.nF R.cF,.pointer (some ⟨R.root,0,none⟩),.slice R.Ai R.iB.length R.ci,.slice R.Au R.uB.length R.cu,σi.av,.bool σi.ρ.twice,.bool σi.ρ.cyc,.func (.func 40) #[] #[.pointer (some ⟨bx,0,none⟩)]]:=by
      simpa using HRb.out.set_ 8 (.func (.func 40) #[] #[.pointer (some ⟨bx,0,none⟩)])
     have hxS:Blk ((wr.alloc (.cells #[.slice none 0 0] 27)).setCell ⟨R.r,8,none⟩ (.func (.func 40) #[] #[.pointer (some ⟨bx,0,none⟩)])) bx 27 #[.slice none 0 0]:=by
      rw[hbx]
      exact HBx.out.far (fun e=>zS7 HBx.out HRb.out (by decide) e) _
     have hszS:((wr.alloc (.cells #[.slice none 0 0] 27)).setCell ⟨R.r,8,none⟩ (.func (.func 40) #[] #[.pointer (some ⟨bx,0,none⟩)])).heap.size=wr.heap.size+1:=by simp[World.setCell]
     have HS9:=Lib.hid (show _∧_∧_∧_ from⟨hkS,hrS,hxS,hszS⟩)
     have HBxe:=Lib.hid hbx
     clear hkS hrS hxS hszS
     go_upto_region 10 with fail
     rw[←HBxe.out]
     clear r8 f8 HRb HBx hbx
     generalize (wr.alloc (.cells #[.slice none 0 0] 27)).setCell ⟨R.r,8,none⟩ (.func (.func 40) #[] #[.pointer (some ⟨bx,0,none⟩)])=wS at HS9 ⊢
     have hsum:((p.files.drop i).map fun f=>vDs f.decls).sum=((p.files.drop (i+1)).map fun f=>vDs f.decls).sum+vDs p.files[i].decls:=by rw[List.drop_eq_getElem_cons hlt,List.map_cons,List.sum_cons,Nat.add_comm]
     have hrN:∀ b,Imi b→¬ b=R.r:=fun b hb e=>(Bi.out.st.zo.mu b (.inl e)).2 hb
     have hT:St (R.with_ (.func (.func 40) #[] #[.pointer (some ⟨bx,0,none⟩)])) (cloU bx) 1099511627776 (((p.files.drop i).map fun f=>vDs f.decls).sum) (σi.put (Value.slice none 0 0,[])) Imi wS:=
      Bi.out.st.swap (C':=cloU bx) (x':=(Value.slice none 0 0,[])) (.func (.func 40) #[] #[.pointer (some ⟨bx,0,none⟩)]) HS9.out.1 HS9.out.2.1 ⟨HS9.out.2.2.1,World.ownsRow_nil _ _ _ _⟩ (fun b hb=>by
       rcases hb with e | e
       ·rw[e,HBxe.out];exact⟨Nat.le_refl _,by rw[HS9.out.2.2.2];omega⟩
       ·cases e) rfl
     have hpk:=Bi.out.pk.kept HS9.out.1 hrN (fun _ h=>h)
     obtain⟨bF',bL',henv⟩:=HRt.out.ev
     have hD:zR8 (R.with_ (.func (.func 40) #[] #[.pointer (some ⟨bx,0,none⟩)])) (cloU bx) 1099511627776 (UU bx) p.files[i].decls:=zK9 rfl Tryz.call40 cloOkU _
     have cF:=Lib.hid (yU0 (R:=R.with_ (.func (.func 40) #[] #[.pointer (some ⟨bx,0,none⟩)])) (C:=cloU bx) (U:=UU bx) p.files i hlt hD (σi.put (Value.slice none 0 0,[])) Imi wS (((p.files.drop (i+1)).map fun f=>vDs f.decls).sum) env (by rw[←hsum];exact hT) ⟨hpk.len,hpk.sl,hpk.ds,hpk.ts⟩ (Bi.out.en.kept HS9.out.1 hrN (fun _ h=>h)) Bi.out.kn (by rw[henv];simp) (by have h:=Bi.out.nu;show i < R.uB.length;have h':R.uB.length=p.files.length:=h;omega) (by rw[henv];have h:=HLv.out _ (List.getElem_mem hlt);simp;omega))
     have HT:=Lib.hid hT
     clear hsum hrN hT hpk henv hD
     go_wp2_with fail
     refine cF.out.mono ?_
     rintro e w3 ⟨σ',Im',l',A',c',rfl,hV,hS,hQ,hGr,hSl,hOl⟩
     have hus:=(visU (R.with_ (.func (.func 40) #[] #[.pointer (some ⟨bx,0,none⟩)])) bx).2.2.2 _ _ _ _ _ _ _ hV
     obtain⟨hsh1,hsh2⟩:=yX3 HRt.out
     have him:(R.with_ (.func (.func 40) #[] #[.pointer (some ⟨bx,0,none⟩)])).imps=yD1 (plP p).files:=hsh2
     rw[him,hsh1] at hus
     obtain⟨hB3,hO3,hne3,hM3⟩:=Btw.visit Bi.out Oi.out HS9.out.1 HBxe.out (by rw[HS9.out.2.2.2,HBxe.out];omega) hV hS HT.out hQ hGr
     have hcl:=hS.cl
     have HV3:=Lib.hid (show σ'.x.2=uDs (yD1 (plP p).files) (plDs p.files[i].decls) [zT5 (plP p).files] [] i from by rw[hus];rfl)
     have HB3:=Lib.hid hB3
     have HO3:=Lib.hid hO3
     have HN3:=Lib.hid hne3
     have HM3:=Lib.hid hM3
     have HC3:=Lib.hid hcl
     clear cF hV hS hQ hGr hSl hOl hus hsh1 hsh2 him hB3 hO3 hne3 hM3 hcl Bi Oi HT HS9
     have hul:σ'.x.2.length≤1048576:=by rw[HV3.out];exact HU.out _ (List.getElem_mem hlt) _ _ _ _
     have cS0:=xY8 σ'.x.1 σ'.x.2 w3 HC3.out.2 hul
     obtain⟨Av,cv,hav⟩:=zV2 HC3.out.2
     have HUl:=Lib.hid hul
     have HAv:=Lib.hid hav
     have x0:=HC3.out.1.cell 0
     rw[hav] at x0 cS0
     have cS:=Lib.hid cS0
     obtain⟨nl,hnl⟩:∃ nl,σ'.x.2.length=nl:=⟨_,rfl⟩
     have HNl:=Lib.hid hnl
     rw[hnl] at x0 cS
     clear hul hav cS0 hnl
     go_upto_region 11 with fail
     go_wp2_with fail
     refine cS.out.mono ?_
     rintro e w4 ⟨rfl,⟨A2,c2,hv2,hSl⟩,hk4⟩
     have hA2:A2=Av:=by
      rw[HNl.out] at hv2
      injection hv2 with h1 _ _
      exact h1.symm
     subst hA2
     have HSl:=Lib.hid hSl
     have HB4:=Lib.hid (HB3.out.write hk4 fun b hb=>by
      have h:=HM3.out b (.inr (by rw[HAv.out,HNl.out];exact hb))
      exact⟨h.2,h.1.2.1,h.1.2.2⟩)
     have HO4:=Lib.hid (HO3.out.write hk4 fun b hb hn=>HN3.out b hb (.inr (by rw[HAv.out,HNl.out];exact hn)))
     have hBx:=hk4.blk HC3.out.1 (fun e=>zS1 HC3.out.2 HC3.out.1 (by decide) bx (by rw[HAv.out,HNl.out];exact e) rfl)
     have x0:=hBx.cell 0
     rw[HAv.out,HNl.out] at x0
     clear cS hv2 hSl hk4 hBx HB3 HO3 HN3 HM3 HC3
     have hac:=HO4.out.ac
     rw[←HLo.out] at hac
     have HAc:=Lib.hid hac
     have HSrc:=Lib.hid (show Src w4 5 A2 nl ((stU σ'.x.2).flatMap encU) from by have h:=HSl.out.src yU5;rw[xY9,HNl.out] at h;exact h)
     have hlc:=HLc.out
     have hnl2:nl≤1048576:=by rw[←HNl.out];exact HUl.out
     clear hac
     go_wp2_with (at_builtin;refine zU1 _ rfl (.tmp 32) (.tmp 33) 27 rfl 0 52 5 48 elUse _ _ _ rfl HAc.out A2 nl _ _ rfl HSrc.out (by
      intro q hq
      obtain⟨y,_,hy⟩:=List.mem_flatMap.1 hq
      exact yP6 y q hy) (by simp only[maxLen];omega) (by omega) (Nat.zero_le _) ?_;intro v' w5 hacc' hg' _ _ hob')
     have hg2:w4.grownBy w5 (Value.slice Ao lo co).ownBlock:=hg'
     have hob2:v'.ownBlock=(Value.slice Ao lo co).ownBlock∨∃ g,v'.ownBlock=some g∧w4.heap.size≤g:=hob'
     have hk5:Kp (fun b=>(Value.slice Ao lo co).ownBlock=some b) w4 w5:=(Kp.refl _ w4).grown hg2 fun k hk=>.inl hk
     have hB5:=HB4.out.write hk5 fun b hb=>⟨(HO4.out.ma b hb).2,(HO4.out.ma b hb).1.2⟩
     have hus:usFs (p.files.map plF) 0 ((p.files.take (i+1)).map plF)=usFs (p.files.map plF) 0 ((p.files.take i).map plF)++stU σ'.x.2:=by
      rw[List.take_succ_eq_append_getElem hlt,List.map_append,List.map_cons,List.map_nil,yO2,HV3.out]
      have e:0+((p.files.take i).map plF).length=i:=by rw[List.length_map,List.length_take];omega
      rw[e]
      rfl
     have hlen:lo+nl=(usFs (p.files.map plF) 0 ((p.files.take (i+1)).map plF)).length:=by rw[hus,List.length_append,xY9,←HLo.out,HNl.out]
     have hO5:OutU w1 (R.with_ (.func (.func 40) #[] #[.pointer (some ⟨bx,0,none⟩)])) v' (usFs (p.files.map plF) 0 ((p.files.take (i+1)).map plF)) σ'.bare Im' w5:=by
      refine⟨?_,fun b hb=>?_⟩
      ·rw[←hlen,hus,List.flatMap_append]
       exact hacc'
      ·rcases hob2 with e | ⟨g,e,h2⟩
       ·have h:=HO4.out.ma b (e▸hb)
        exact⟨h.1.up hk5.size,h.2⟩
       ·rw[e] at hb
        injection hb with hb
        subst hb
        have hlt5:g < w5.heap.size:=by
         rcases hacc' with h3 | ⟨_,g2,off,h3,h4,_⟩
         ·exact(h3.lt g e).2
         ·rw[h3] at e
          injection e with e
          exact e▸h4
        exact⟨HB4.out.st.zo.new_ h2 hlt5,Nat.le_trans HB4.out.lo.size h2⟩
     obtain⟨A5,c5,hv5⟩:=hacc'.shape
     subst hv5
     refine⟨⟨i+1,(.func (.func 40) #[] #[.pointer (some ⟨bx,0,none⟩)]),σ'.bare,Im',A5,lo+nl,c5,by omega,by go_num,rfl,Lib.hid hlen,Lib.hid (by omega),Lib.hid hB5,Lib.hid hO5⟩,by simp[intOf];omega⟩
    ·obtain rfl:i=p.files.length:=by omega
     have HR:=Lib.hid (show zM5 (zS9 rx (plP p)).1 (zS9 rx (plP p)).2 w (.returned (.tuple #[.slice Ao lo co,.int .i64 0])) wr from by
      rw[HE.out]
      have hlo:=HLo.out
      have hO:=Oi.out
      rw[List.take_length] at hlo hO
      obtain⟨h1,h2⟩:=zO1 (A:=Ao) (m:=lo) (c:=co) yU5 (by have h:=hO.ac;rw[←hlo] at h;exact h) (by decide)
      refine⟨Ao,co,by rw[hlo],h2,by have:=HLc.out;rw[←hlo];omega,HW.out.trans (Bi.out.lo.mono HW.out.size),fun a hne ha=>?_⟩
      subst ha
      exact Nat.le_trans HW.out.size (hO.ma a.block rfl).2)
     go_wp2
     refine bodyPost_ret (v:=.tuple #[.slice Ao lo co,.int .i64 0]) (by simp[results,Tryz.results14,go_sem]) rfl HR.out
end Go.Proofs.YtdgehhgjgifikaaGreatDoor
