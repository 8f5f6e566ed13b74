/- What the claim needs of:ZU. -/
import Derived.Test.YtdgehhgjgifikaaGreatDoorN32
namespace Go.Proofs.YtdgehhgjgifikaaGreatDoor
open Go.RowKit
def atOb (b:Nat)(f:Ob→Ob)(o:Ob):Ob:=if o.blk=b then f o else o
def actO (o:Ob):Ob:={o with act:=true}
def zR3 (e:EA)(o:Ob):Ob:={o with act:=false,done:=true,ex:=e,hgt:=(htE 17 (plE e):Nat)}
def RS.at_ (ρ:RS)(b:Nat)(f:Ob→Ob):RS:={ρ with objs:=ρ.objs.map (atOb b f)}
section
variable {X:Type}{R:RF}{C:Clo X}{n s:Nat}{σ:GS X}{Im:Nat→Prop}{w w':World}
theorem St.turn2 (h:St R C n s σ Im w){ρ':RS}{n' s':Nat}(ha:ρ'.all=σ.ρ.all){g:Ob→Ob}(hob:ρ'.objs=σ.ρ.objs.map g)(hg:∀ o,(g o).blk=o.blk∧(g o).d=o.d∧(g o).sc=o.sc∧(g o).file=o.file)(hex:∀ o∈σ.ρ.objs,OkI Im w' (g o).ex)
  (hw:wObs ρ'.objs+s'≤wObs σ.ρ.objs+s)(hn:wObs ρ'.objs+s'≤n'){M:Nat→Prop}(hk:Kp M w w')(hM:∀ b,M b→b=R.r∨b∈R.uB∨∃ o∈σ.ρ.objs,o.blk=b)(hrs:RsAt R ρ' σ.av w'.heap.size w') :
  St R C n' s' {σ with ρ:=ρ'} Im w'∧Sp (zn R C σ Im) w (zn R C {σ with ρ:=ρ'} Im) w'∧Gr w σ {σ with ρ:=ρ'}:=by
 have hblk:∀ b,(∃ o∈ρ'.objs,o.blk=b)↔∃ o∈σ.ρ.objs,o.blk=b:=fun b=>by
  rw[hob]
  constructor
  ·rintro⟨o,ho,hb⟩
   obtain⟨y,hy,rfl⟩:=List.mem_map.1 ho
   exact⟨y,hy,(hg y).1.symm.trans hb⟩
  ·rintro⟨o,ho,hb⟩
   exact⟨g o,List.mem_map.2 ⟨o,ho,rfl⟩,(hg o).1.trans hb⟩
 have hMM:∀ b,M b→(zn R C σ Im).Mut b:=fun b hb=>by
  rcases hM b hb with h1 | h1 | h1
  ·exact .inl h1
  ·exact .inr (.inl h1)
  ·exact .inr (.inr (.inl h1))
 have hMu:∀ b,(zn R C {σ with ρ:=ρ'} Im).Mut b↔(zn R C σ Im).Mut b:=fun b=>by
  show (b=R.r∨b∈R.uB∨(∃ o∈ρ'.objs,o.blk=b)∨σ.av.ownBlock=some b∨C.M σ.x b)↔(b=R.r∨b∈R.uB∨(∃ o∈σ.ρ.objs,o.blk=b)∨σ.av.ownBlock=some b∨C.M σ.x b)
  rw[hblk b]
 have hiN:=h.stay hMM
 have hs:=hk.size
 have hoB:∀ {b:Nat},(∀ o∈σ.ρ.objs,o.blk≠b)→∀ o∈ρ'.objs,o.blk≠b:=fun {b} hn o ho e=>by
  obtain⟨y,hy,e2⟩:=(hblk b).1 ⟨o,ho,e⟩
  exact hn y hy e2
 have hok:(zn R C {σ with ρ:=ρ'} Im).Ok w':=⟨fun b hb=>⟨Nat.lt_of_lt_of_le (h.zo.mu b ((hMu b).1 hb)).1 hs,(h.zo.mu b ((hMu b).1 hb)).2⟩,fun b hb=>Nat.lt_of_lt_of_le (h.zo.im b hb) hs⟩
 have hgr:Gr w σ {σ with ρ:=ρ'}:=⟨fun o ho=>(hblk _).2 ⟨o,ho,rfl⟩,fun _ _=>rfl⟩
 refine⟨⟨hrs,?_,C.keep h.cl hk fun b hb hm=>?_,hok,fun b hb=>?_,fun b hb=>?_,h.im,fun o ho=>?_,?_,hn⟩,⟨hk.mono hMM,fun b hb=>.inl ((hMu b).1 hb),fun _ h=>h,fun _ h=>.inl h,hok⟩,hgr⟩
 ·show w'.ownsRow 0 80 1 σ.av ρ'.all.length (ρ'.all.map lptr)
  rw[ha]
  refine zV5 h.al hk fun b hb hm=>?_
  obtain⟨h1,h2,h3⟩:=h.am b hb
  rcases hM b hm with h4 | h4 | ⟨o,ho,h4⟩
  ·exact h1 h4
  ·exact h2 h4
  ·exact h3 o ho h4
 ·obtain⟨h1,h2,h3,_⟩:=h.cm b hb
  rcases hM b hm with h4 | h4 | ⟨o,ho,h4⟩
  ·exact h1 h4
  ·exact h2 h4
  ·exact h3 o ho h4
 ·obtain⟨h1,h2,h3,h4⟩:=h.cm b hb
  exact⟨h1,h2,hoB h3,h4⟩
 ·obtain⟨h1,h2,h3⟩:=h.am b hb
  exact⟨h1,h2,hoB h3⟩
 ·have ho':o∈σ.ρ.objs.map g:=hob▸ho
  obtain⟨y,hy,rfl⟩:=List.mem_map.1 ho'
  obtain⟨g1,g2,g3,g4⟩:=hg y
  obtain⟨l1,l2,l3,l4,l5,l6,_⟩:=(h.lo y hy).kept hk hiN (fun _ h=>h)
  exact⟨by rw[g2];exact l1,by rw[g2];exact l2,by rw[g3];exact l3,by rw[g3];exact EnvK.gr l4 hgr,by rw[g2,g3];exact l5,by rw[g4];exact l6,hex y hy⟩
 ·have:=h.bu
  show C.ct σ.x+(ρ'.all.length+wObs ρ'.objs+s')≤_
  rw[ha]
  omega
theorem ObsAt.at_ob {obs:List Ob}{B:Nat}(h:ObsAt obs B w){b:Nat}{f:Ob→Ob}(hf:∀ o,(f o).blk=o.blk)(hk:Kp (· = b) w w')(hb:∀ o∈obs,o.blk=b→Blk w' b 102 (obV (f o))):ObsAt (obs.map (atOb b f)) B w':=by
 have hblk:∀ x:Ob,(atOb b f x).blk=x.blk:=fun x=>by unfold atOb;split;exact hf x;rfl
 refine⟨fun x hx=>?_,fun x hx=>?_,?_⟩
 ·obtain⟨y,hy,rfl⟩:=List.mem_map.1 hx
  rw[hblk]
  by_cases hyb:y.blk=b
  ·have e:atOb b f y=f y:=if_pos hyb
   rw[e,hyb]
   exact hb y hy hyb
  ·have e:atOb b f y=y:=if_neg hyb
   rw[e]
   exact hk.blk (h.at_ y hy) hyb
 ·obtain⟨y,hy,rfl⟩:=List.mem_map.1 hx
  rw[hblk]
  exact h.lt y hy
 ·have e:(obs.map (atOb b f)).map (·.blk)=obs.map (·.blk):=by
   rw[List.map_map]
   exact List.map_congr_left fun x _=>hblk x
  rw[e]
  exact h.nd
theorem zQ7 {obs:List Ob}(hn:(obs.map (·.blk)).Nodup){o o':Ob}(ho:o∈obs)(ho':o'∈obs)(e:o.blk=o'.blk):o=o':=by
 induction obs with
 | nil=>cases ho
 | cons x l ih=>
   rw[List.map_cons,List.nodup_cons] at hn
   rcases List.mem_cons.1 ho with h1 | h1
   ·rcases List.mem_cons.1 ho' with h2 | h2
    ·rw[h1,h2]
    ·exact absurd (List.mem_map.2 ⟨o',h2,by rw[←e,h1]⟩) hn.1
   ·rcases List.mem_cons.1 ho' with h2 | h2
    ·exact absurd (List.mem_map.2 ⟨o,h1,by rw[e,h2]⟩) hn.1
    ·exact ih hn.2 h1 h2
end
theorem wOb_act (o:Ob):wOb (actO o)=0:=by unfold wOb actO;simp
theorem wOb_done (e:EA)(o:Ob):wOb (zR3 e o)=0:=by unfold wOb zR3;simp
theorem yK3 {b:Nat}{f:Ob→Ob}(hf:∀ o,wOb (f o)=0):∀ l:List Ob,wObs (l.map (atOb b f))≤wObs l
 | []=>Nat.le_refl _
 | x ::l=>by
   have h:=yK3 (b:=b) hf l
   unfold wObs at *
   rw[List.map_cons,List.map_cons,List.map_cons,List.sum_cons,List.sum_cons]
   have:wOb (atOb b f x)≤wOb x:=by
    unfold atOb
    split
    ·rw[hf];exact Nat.zero_le _
    ·exact Nat.le_refl _
   omega
theorem zB4 {b:Nat}{f:Ob→Ob}(hf:∀ o,wOb (f o)=0):∀ {l:List Ob}{o:Ob},o∈l→o.blk=b→wObs (l.map (atOb b f))+wOb o≤wObs l
 | x ::l,o,ho,hb=>by
   have h1:=yK3 (b:=b) hf l
   unfold wObs at *
   rw[List.map_cons,List.map_cons,List.map_cons,List.sum_cons,List.sum_cons]
   rcases List.mem_cons.1 ho with rfl | ho
   ·have:wOb (atOb b f o)=0:=by unfold atOb;rw[if_pos hb,hf]
    omega
   ·have h2:=zB4 hf ho hb
    unfold wObs at h2
    have:wOb (atOb b f x)≤wOb x:=by
     unfold atOb
     split
     ·rw[hf];exact Nat.zero_le _
     ·exact Nat.le_refl _
    omega
def ResO {X:Type}(R:RF)(U:UseR X)(σ:GS X)(b:Nat)(σ':GS X)(e':EA):Prop:=
 ∃ o∈σ.ρ.objs,o.blk=b∧
   ((o.act=true∧σ'= {σ with ρ:={σ.ρ with cyc:=true}}∧e'=zO0)∨
    (o.act=false∧o.done=true∧σ'=σ∧e'=o.ex)∨
    (o.act=false∧o.done=false∧∃ e0 σ1,zU6 o.d=[e0]∧VisE R U e0 (σ.en o.sc) [] o.file {σ with ρ:=σ.ρ.at_ b actO} σ1 e'∧σ'= {σ1 with ρ:=σ1.ρ.at_ b (zR3 e')}))
section
variable {X:Type}{R:RF}{C:Clo X}{n s:Nat}{σ:GS X}{Im:Nat→Prop}{w:World}
theorem St.cyc (h:St R C n s σ Im w)(b:Bool):St R C n s {σ with ρ:={σ.ρ with cyc:=b}} Im (w.setCell ⟨R.r,7,none⟩ (.bool b))∧Sp (zn R C σ Im) w (zn R C {σ with ρ:={σ.ρ with cyc:=b}} Im) (w.setCell ⟨R.r,7,none⟩ (.bool b))∧Gr w σ {σ with ρ:={σ.ρ with cyc:=b}}:=by
 have hk:Kp (· = R.r) w (w.setCell ⟨R.r,7,none⟩ (.bool b)):=(Kp.refl (· = R.r) w).setCell (p:=⟨R.r,7,none⟩) rfl _
 refine h.turn (ρ':={σ.ρ with cyc:=b}) rfl (SameOb.refl _) hk (fun _ hb=>.inl hb) (h.cellR hk (fun _ h=>.inl h) rfl rfl ?_)
 have:=h.rs.rc.set_ 7 (.bool b)
 simpa using this
theorem St.at_ (h:St R C n s σ Im w){w':World}{b:Nat}{f:Ob→Ob}{n' s':Nat}(hf:∀ o,(f o).blk=o.blk∧(f o).d=o.d∧(f o).sc=o.sc∧(f o).file=o.file)(hex:∀ o∈σ.ρ.objs,o.blk=b→OkI Im w' (f o).ex)
  (hmem:∃ o∈σ.ρ.objs,o.blk=b)(hw:wObs (σ.ρ.at_ b f).objs+s'≤wObs σ.ρ.objs+s)(hn:wObs (σ.ρ.at_ b f).objs+s'≤n')(hk:Kp (· = b) w w')(hb:∀ o∈σ.ρ.objs,o.blk=b→Blk w' b 102 (obV (f o))) :
  St R C n' s' {σ with ρ:=σ.ρ.at_ b f} Im w'∧Sp (zn R C σ Im) w (zn R C {σ with ρ:=σ.ρ.at_ b f} Im) w'∧Gr w σ {σ with ρ:=σ.ρ.at_ b f}:=by
 obtain⟨o0,ho0,hob0⟩:=hmem
 have hB0:=h.rs.ob.at_ o0 ho0
 rw[hob0] at hB0
 have hiN:∀ c,Im c→¬ c=b:=h.stay fun c hc=>.inr (.inr (.inl ⟨o0,ho0,by rw[hob0];exact hc.symm⟩))
 refine h.turn2 (g:=atOb b f) rfl rfl (fun o=>?_) (fun o ho=>?_) hw hn hk (fun c hc=>.inr (.inr ⟨o0,ho0,by rw[hob0];exact hc.symm⟩)) ?_
 ·unfold atOb
  split
  ·exact hf o
  ·exact⟨rfl,rfl,rfl,rfl⟩
 ·unfold atOb
  split
  ·rename_i e
   exact hex o ho e
  ·exact((h.lo o ho).kept hk hiN (fun _ h=>h)).ex
 ·have hs:=hk.size
  exact⟨hk.blk h.rs.rc (zS7 h.rs.rc hB0 (by decide)),Nat.lt_of_lt_of_le h.rs.rl hs,(h.rs.mp.keptA hk (imN h.im.1 hiN) (imN h.im.2.1 hiN) (fun b hb=>hiN b (h.im.2.2 b hb)) (fun c hc e=>yA9 hB0 h.rs.mp.mu c hc e)).more hs,
   (h.rs.ob.at_ob (fun o=>(hf o).1) hk hb).more hs⟩
end
def RsvOk {X:Type}(R:RF)(C:Clo X)(n:Nat)(U:UseR X):Prop:=
 ∀ (σ:GS X) (Im:Nat→Prop) (w:World) (s b:Nat),St R C n s σ Im w→(∃ o∈σ.ρ.objs,o.blk=b)→
   Calls Tryz.prog 60 #[.pointer (some ⟨R.r,0,none⟩),.pointer (some ⟨b,0,none⟩)] w (RetE R C n s σ Im w (ResO R U σ b))
end Go.Proofs.YtdgehhgjgifikaaGreatDoor
