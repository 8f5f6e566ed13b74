/- What the claim needs of:QC QD QE. -/
import Derived.Test.YtdgehhgjgifikaaGreatDoorN35
namespace Go.Proofs.YtdgehhgjgifikaaGreatDoor
open Go.RowKit
def rzO {X:Type}(im:List (List Tx))(σ:GS X)(N:Nat)(o:Ob):Option (E × Bool):=rzL im N ((zU6 o.d).map plE) o.file (pv σ.ρ.objs (σ.en o.sc))
def DoneOk (im:List (List Tx))(σ:GS Bool):Prop:=∀ o∈σ.ρ.objs,o.act=false→o.done=true→∃ N dp,rzO im σ N o=some (plE o.ex,dp)∧(dp=true→σ.x=true)∧o.hgt=(htE 17 (plE o.ex):Nat)
def ActN (im:List (List Tx))(σ:GS Bool)(N:Nat):Prop:=∀ o∈σ.ρ.objs,o.act=true→rzO im σ N o=none
structure Pre (im:List (List Tx))(σ:GS Bool):Prop where
 ok:OkS σ
 dn:σ.ρ.cyc=false→DoneOk im σ
structure Con {α:Type}(im:List (List Tx))(σ σ':GS Bool)(rz:Nat→Option (α × Bool))(v:α):Prop where
 gr:Grw σ σ'
 ok:OkS σ'
 cy:σ.ρ.cyc=true→σ'.ρ.cyc=true
 fl:σ.x=true→σ'.x=true
 dn:σ'.ρ.cyc=false→DoneOk im σ'
 rs:σ'.ρ.cyc=false→∃ N dp,rz N=some (v,dp)∧σ'.x=(σ.x||dp)
 fu:∀ N,rz N≠none→ActN im σ N→σ'.ρ.cyc=σ.ρ.cyc
theorem yH3 {X:Type}(im:List (List Tx))(σ:GS X)(o:Ob):Mono fun N=>rzO im σ N o:=fun _ _ r h h2=>zB6 im h _ _ _ r h2
theorem Grb.rzO {X:Type}{im:List (List Tx)}{σ σ':GS X}(h:Grb σ σ')(k:OkS σ)(k':OkS σ'){o o':Ob}(ho:o∈σ.ρ.objs)(ho':o'∈σ'.ρ.objs)(e:o'.blk=o.blk)(N:Nat):rzO im σ' N o'=rzO im σ N o:=by
 obtain⟨o2,h2,e1,e2,e3,e4⟩:=h.ob o ho
 have:o2=o':=zQ7 k'.nd h2 ho' (e1.trans e.symm)
 subst this
 unfold Go.Proofs.YtdgehhgjgifikaaGreatDoor.rzO
 rw[e2,e3,e4,h.en o ho,h.pv k.nd k'.nd (k.en o ho)]
section
variable {im:List (List Tx)}{σ σ1 σ2:GS Bool}
theorem ActN.grw {N:Nat}(h:Grw σ σ1)(k:OkS σ)(k1:OkS σ1)(hA:ActN im σ N):ActN im σ1 N:=fun o1 h1 ha=>by
 obtain⟨o,ho,e⟩:=h.nw o1 h1 ha
 rw[h.b.rzO k k1 ho h1 e.symm]
 exact hA o ho ((h.ac o ho o1 h1 e.symm).symm.trans ha)
theorem DoneOk.grb (h:Grb σ σ1)(k:OkS σ)(k1:OkS σ1)(hx:σ.x=true→σ1.x=true)(hd:DoneOk im σ)
  (hold:∀ o1∈σ1.ρ.objs,o1.act=false→o1.done=true→∃ o∈σ.ρ.objs,o.blk=o1.blk∧o.act=false∧o.done=true∧o1.ex=o.ex∧o1.hgt=o.hgt):DoneOk im σ1:=fun o1 h1 ha hdn=>by
 obtain⟨o,ho,e,h3,h4,h5,h6⟩:=hold o1 h1 ha hdn
 obtain⟨N,dp,h7,h8,h9⟩:=hd o ho h3 h4
 exact⟨N,dp,by rw[h.rzO k k1 ho h1 e.symm,h5,h7],fun hdp=>hx (h8 hdp),by rw[h6,h5,h9]⟩
theorem Con.cast {α:Type}{rz rz':Nat→Option (α × Bool)}{v v':α}(h:Con im σ σ1 rz v)(hr:∀ N,rz' N=rz N)(hv:v'=v):Con im σ σ1 rz' v':=by
 have:rz'=rz:=funext hr
 rw[this,hv]
 exact h
theorem Con.pre {α:Type}{rz:Nat→Option (α × Bool)}{v:α}(h:Con im σ σ1 rz v):Pre im σ1:=⟨h.ok,h.dn⟩
theorem Con.seq {α β γ:Type}{rz1:Nat→Option (α × Bool)}{rz2:Nat→Option (β × Bool)}{v1:α}{v2:β}(f:α→β→γ)(h:Con im σ σ1 rz1 v1)(k:Con im σ1 σ2 rz2 v2)(h0:OkS σ)(m1:Mono rz1)(m2:Mono rz2):Con im σ σ2 (fun N=>both (rz1 N) (rz2 N) f) (f v1 v2):=by
 have hc:σ2.ρ.cyc=false→σ1.ρ.cyc=false:=fun h2=>by
  cases hc:σ1.ρ.cyc with
  | false=>rfl
  | true=>rw[k.cy hc] at h2;cases h2
 refine⟨h.gr.trans k.gr,k.ok,fun h1=>k.cy (h.cy h1),fun h1=>k.fl (h.fl h1),k.dn,fun h2=>?_,fun N hN hA=>?_⟩
 ·obtain⟨N1,d1,e1,x1⟩:=h.rs (hc h2)
  obtain⟨N2,d2,e2,x2⟩:=k.rs h2
  exact⟨max N1 N2,d1||d2,zX0.2 ⟨_,_,m1 _ _ _ (Nat.le_max_left _ _) e1,m2 _ _ _ (Nat.le_max_right _ _) e2,rfl⟩,by rw[x2,x1,Bool.or_assoc]⟩
 ·obtain⟨n1,n2⟩:=both_ne hN
  rw[k.fu N n2 (hA.grw h.gr h0 h.ok),h.fu N n1 hA]
theorem xW7 {α:Type}(y:Option (α × Bool)):both (some ((),false)) y (fun _ v=>v)=y:=by
 cases y with
 | none=>rfl
 | some q=>rfl
theorem xW8:Mono fun _=>some ((),false):=fun _ _ _ _ h=>h
theorem Con.silent {α:Type}{rz:Nat→Option (α × Bool)}{v:α}(h:Con im σ σ1 (fun _=>some ((),false)) ())(k:Con im σ1 σ2 rz v)(h0:OkS σ)(m2:Mono rz):Con im σ σ2 rz v:=
 (h.seq (fun _ v=>v) k h0 xW8 m2).cast (fun _=>(xW7 _).symm) rfl
theorem Con.still (hP:Pre im σ)(hg:Grw σ σ1)(hk:OkS σ1)(hc:σ1.ρ.cyc=σ.ρ.cyc)(hx:σ1.x=σ.x)(hold:∀ o1∈σ1.ρ.objs,o1.act=false→o1.done=true→∃ o∈σ.ρ.objs,o.blk=o1.blk∧o.act=false∧o.done=true∧o1.ex=o.ex∧o1.hgt=o.hgt):Con im σ σ1 (fun _=>some ((),false)) ():=
 ⟨hg,hk,fun h=>hc.trans h,fun h=>hx.trans h,fun h=>(hP.dn (hc.symm.trans h)).grb hg.b hP.ok hk (fun h=>hx.trans h) hold,fun _=>⟨0,false,rfl,by rw[hx,Bool.or_false]⟩,fun _ _ _=>hc⟩
theorem mark_con (hP:Pre im σ)(file:Nat)(t:Tx)(x:Int × Int × Option Nat):Con im σ {σ with ρ:=zU5 file t x σ.ρ} (fun _=>some ((),false)) ():=by
 obtain⟨g,h1,h2,h3⟩:=yH0 file t x σ.ρ
 have hg:∀ o,(g o).blk=o.blk∧(g o).d=o.d∧(g o).sc=o.sc∧(g o).file=o.file:=fun o=>⟨(h2 o).1,(h2 o).2.1,(h2 o).2.2.1,(h2 o).2.2.2.1⟩
 refine Con.still hP (Grw.map hP.ok.nd (g:=g) h1 hg (fun o _=>(h2 o).2.2.2.2.1) rfl) (hP.ok.map (g:=g) h1 hg rfl) h3 rfl fun o1 ho1 ha hd=>?_
 have ho1':o1∈(zU5 file t x σ.ρ).objs:=ho1
 rw[h1] at ho1'
 obtain⟨y,hy,rfl⟩:=List.mem_map.1 ho1'
 obtain⟨q1,_,_,_,q5,q6,q7,q8⟩:=h2 y
 exact⟨y,hy,q1.symm,q5.symm.trans ha,q6.symm.trans hd,q7,q8⟩
end
theorem yC1 {bs:List Nat}{ds:List DA}{sc file:Nat}{o:Ob}(h:o∈zW8 bs ds sc file):∃ (i:Nat)(h1:i < bs.length)(h2:i < ds.length),o=zL4 bs[i] sc file zO0 ds[i]:=by
 obtain⟨p,hp,rfl⟩:=List.mem_map.1 h
 obtain⟨i,hi,rfl⟩:=List.mem_iff_getElem.1 hp
 rw[List.length_zip] at hi
 exact⟨i,by omega,by omega,by simp⟩
theorem xW9 {bs:List Nat}{ds:List DA}{sc file i:Nat}(h1:i < bs.length)(h2:i < ds.length):zL4 bs[i] sc file zO0 ds[i]∈zW8 bs ds sc file:=by
 refine List.mem_map.2 ⟨(bs[i],ds[i]),?_,rfl⟩
 rw[List.mem_iff_getElem]
 exact⟨i,by simp;omega,by simp⟩
theorem yC2 {bs:List Nat}{ds:List DA}{sc file:Nat}(h:bs.length=ds.length):(zW8 bs ds sc file).map (·.blk)=bs:=by
 unfold zW8
 rw[List.map_map]
 have:((fun x:Ob=>x.blk) ∘ fun p:Nat × DA=>zL4 p.1 sc file zO0 p.2)=Prod.fst:=rfl
 rw[this,List.map_fst_zip (by omega)]
theorem subs_pl (d:DA):(plD d).subs=(zU6 d).map plE:=by
 cases d
 rw[plD,zU6,←zX9]
 rfl
theorem yH4 (l:List DA)(file:Nat):yS3 (plDs l) file=(zZ7 l).map fun d=>⟨lblD d,(zU6 d).map plE,file⟩:=by
 unfold yS3 zZ7
 rw[zY7,List.filter_map,List.map_map]
 have e:((fun d:D=>decide (d.k=4)) ∘ plD)=zD6:=rfl
 rw[e]
 refine List.map_congr_left fun d _=>?_
 show (⟨(plD d).l,(plD d).subs,file⟩:Lt)=_
 rw[subs_pl]
 rfl
theorem xV0 {X:Type}{decls:List DA}{file:Nat}{env env2:List ScA}{σ σ2:GS X}(hd:Dcl decls file env σ σ2 env2)(h:OkS σ)(hE:EnvL σ.ρ.objs σ.en env) :
  Grw σ σ2∧OkS σ2∧EnvL σ2.ρ.objs σ2.en env2∧pv σ2.ρ.objs env2=xW6 (plDs decls) file ::pv σ.ρ.objs env∧σ2.x=σ.x∧σ2.ρ.cyc=σ.ρ.cyc∧∀ o2∈σ2.ρ.objs,o2∈σ.ρ.objs∨(o2.act=false∧o2.done=false):=by
 obtain⟨sB,bF,bL,bs,gs,av,hlen,⟨hf1,hf2⟩,rfl,_,rfl⟩:=hd
 obtain⟨objs2,hob⟩:∃ q,q=σ.ρ.objs++zW8 bs (zZ7 decls) sB file:=⟨_,rfl⟩
 obtain⟨en2,hen⟩:∃ q:Nat→List ScA,q=fun i=>if i=sB then scOf sB bF bL bs decls ::env else σ.en i:=⟨_,rfl⟩
 obtain⟨σ2,hσ⟩:∃ q,q=({σ.scope sB bF bL bs decls file env with ρ:={(σ.scope sB bF bL bs decls file env).ρ with twice:=!okD2 [] [] decls||σ.ρ.twice,all:=σ.ρ.all++gs},av:=av}:GS X):=⟨_,rfl⟩
 have ho2:σ2.ρ.objs=objs2:=by rw[hσ,hob];rfl
 have he2:σ2.en=en2:=by rw[hσ,hen];rfl
 have hx2:σ2.x=σ.x:=by rw[hσ];rfl
 have hc2:σ2.ρ.cyc=σ.ρ.cyc:=by rw[hσ];rfl
 rw[←hσ]
 clear hσ
 have henO:∀ o∈σ.ρ.objs,en2 o.sc=σ.en o.sc:=fun o ho=>by
  rw[hen]
  exact if_neg (hf1 o ho).1
 have henS:en2 sB=scOf sB bF bL bs decls ::env:=by
  rw[hen]
  exact if_pos rfl
 have hold:∀ o∈σ.ρ.objs,o∈objs2:=fun o ho=>by rw[hob];exact List.mem_append_left _ ho
 have hnd:(objs2.map (·.blk)).Nodup:=by
  rw[hob,List.map_append,yC2 hlen,List.nodup_append]
  refine⟨h.nd,hf2,fun a ha c hc e=>?_⟩
  obtain⟨o,ho,rfl⟩:=List.mem_map.1 ha
  exact(hf1 o ho).2 (e▸hc)
 have hG:Grb σ σ2:=⟨fun o ho=>⟨o,by rw[ho2];exact hold o ho,rfl,rfl,rfl,rfl⟩,fun o ho=>by rw[he2];exact henO o ho⟩
 have hkE:EnvL objs2 en2 env:=by
  have:=hG.envL hE
  rw[ho2,he2] at this
  exact this
 have hsc:∀ i (h1:i < bs.length) (h2:i < (zZ7 decls).length),zL4 bs[i] sB file zO0 (zZ7 decls)[i]∈objs2:=fun i h1 h2=>by
  rw[hob]
  exact List.mem_append_right _ (xW9 h1 h2)
 have hE2:EnvL objs2 en2 (scOf sB bF bL bs decls ::env):=by
  refine⟨fun p hp=>?_,hkE⟩
  have hp':p∈((zZ7 decls).map lblD).zip bs:=hp
  obtain⟨i,hi,rfl⟩:=List.mem_iff_getElem.1 hp'
  rw[List.length_zip,List.length_map] at hi
  exact⟨_,hsc i (by omega) (by omega),by simp[zL4],henS⟩
 have hcase:∀ o2∈objs2,o2∈σ.ρ.objs∨(o2.act=false∧o2.done=false∧o2.blk∈bs∧o2.sc=sB):=fun o2 h2=>by
  rw[hob] at h2
  rcases List.mem_append.1 h2 with h2 | h2
  ·exact .inl h2
  ·obtain⟨i,h3,h4,rfl⟩:=yC1 h2
   exact .inr ⟨rfl,rfl,List.getElem_mem h3,rfl⟩
 have hOk:OkS σ2:=⟨by rw[ho2];exact hnd,fun o ho=>by
  rw[ho2] at ho ⊢
  rw[he2]
  rcases hcase o ho with h2 | ⟨_,_,_,h2⟩
  ·rw[henO o h2]
   have:=hG.envL (h.en o h2)
   rw[ho2,he2] at this
   exact this
  ·rw[h2,henS]
   exact hE2⟩
 refine⟨⟨hG,fun o ho o' ho' e=>?_,fun o' ho' ha=>?_⟩,hOk,by rw[ho2,he2];exact hE2,?_,hx2,hc2,fun o2 h2=>?_⟩
 ·rw[ho2] at ho'
  rcases hcase o' ho' with h2 | ⟨_,_,h2,_⟩
  ·rw[zQ7 h.nd h2 ho e]
  ·exact absurd (e▸h2) (hf1 o ho).2
 ·rw[ho2] at ho'
  rcases hcase o' ho' with h2 | ⟨h2,_⟩
  ·exact⟨o',h2,rfl⟩
  ·rw[h2] at ha;cases ha
 ·rw[ho2]
  have hpv:pv objs2 env=pv σ.ρ.objs env:=by
   have:=hG.pv h.nd hOk.nd hE
   rw[ho2] at this
   exact this
  show pvS objs2 (scOf sB bF bL bs decls) ::pv objs2 env=_
  rw[hpv]
  congr 1
  show (⟨zY2 decls,(((zZ7 decls).map lblD).zip bs).map (ltAt objs2)⟩:Scp)=⟨zL3 (plDs decls),yS3 (plDs decls) file⟩
  rw[yH4]
  congr 1
  refine List.ext_getElem (by simp;omega) fun i h1 h2=>?_
  have hi:i < (zZ7 decls).length:=by simpa using h2
  have:=zB8 hnd (hsc i (by omega) hi) (p:=(lblD (zZ7 decls)[i],bs[i]'(by omega))) rfl
  simp only[List.getElem_map,List.getElem_zip]
  rw[this]
  rfl
 ·rw[ho2] at h2
  rcases hcase o2 h2 with h3 | ⟨h3,h4,_⟩
  ·exact .inl h3
  ·exact .inr ⟨h3,h4⟩
theorem dcl_con {im:List (List Tx)}{decls:List DA}{file:Nat}{env env2:List ScA}{σ σ2:GS Bool}(hd:Dcl decls file env σ σ2 env2)(hP:Pre im σ)(hE:EnvL σ.ρ.objs σ.en env) :
  Con im σ σ2 (fun _=>some ((),false)) ()∧EnvL σ2.ρ.objs σ2.en env2∧pv σ2.ρ.objs env2=xW6 (plDs decls) file ::pv σ.ρ.objs env:=by
 obtain⟨h1,h2,h3,h4,h5,h6,h7⟩:=xV0 hd hP.ok hE
 refine⟨Con.still hP h1 h2 h6 h5 fun o1 ho1 ha hdn=>?_,h3,h4⟩
 rcases h7 o1 ho1 with h8 | ⟨_,h8⟩
 ·exact⟨o1,h8,rfl,ha,hdn,rfl,rfl⟩
 ·rw[h8] at hdn;cases hdn
def RefOk (R:RF)(U:UseR Bool):Prop:=
 ∀ (σ:GS Bool) (t:Tx) (m:Int) (a b:Tx) (As:Option Addr) (cs:Nat) (subs:List EA) (Ad:Option Addr) (cd:Nat) (decls:List DA) (At:Option Addr) (ct:Nat) (tail:List Tx) (pos:Int) (env:List ScA) (lp:List Tx) (file:Nat) (σ':GS Bool) (e':EA),
   U {σ with ρ:=zU5 file t (zW6 R.imps env lp file t) σ.ρ} (.mk 10 t m a b As cs subs Ad cd decls At ct tail pos) (zW6 R.imps env lp file t) file σ' e'→Pre R.imps σ→EnvL σ.ρ.objs σ.en env→
   Con R.imps σ σ' (fun N=>rzE (rzL R.imps N) R.imps (plE (.mk 10 t m a b As cs subs Ad cd decls At ct tail pos)) (pv σ.ρ.objs env) lp file) (plE e')
structure yH5 (R:RF)(U:UseR Bool):Prop where
 e:∀ e,∀ env lp file σ σ' e',VisE R U e env lp file σ σ' e'→Pre R.imps σ→EnvL σ.ρ.objs σ.en env→Con R.imps σ σ' (fun N=>rzE (rzL R.imps N) R.imps (plE e) (pv σ.ρ.objs env) lp file) (plE e')
 ds:∀ l,∀ env lp file σ σ' l',zX7 R U l env lp file σ σ' l'→Pre R.imps σ→EnvL σ.ρ.objs σ.en env→Con R.imps σ σ' (fun N=>rzDs (rzL R.imps N) R.imps (plDs l) (pv σ.ρ.objs env) lp file) (plDs l')
theorem Con.nil_ {α:Type}{im:List (List Tx)}{σ:GS Bool}(hP:Pre im σ)(v:α):Con im σ σ (fun _=>some (v,false)) v:=
 ⟨Grw.refl hP.ok.nd,hP.ok,fun h=>h,fun h=>h,hP.dn,fun _=>⟨0,false,rfl,by rw[Bool.or_false]⟩,fun _ _ _=>rfl⟩
theorem Con.envL {α:Type}{im:List (List Tx)}{σ σ':GS Bool}{rz:Nat→Option (α × Bool)}{v:α}{env:List ScA}(h:Con im σ σ' rz v)(hP:Pre im σ)(hE:EnvL σ.ρ.objs σ.en env):EnvL σ'.ρ.objs σ'.en env∧pv σ'.ρ.objs env=pv σ.ρ.objs env:=⟨h.gr.b.envL hE,h.gr.b.pv hP.ok.nd h.ok.nd hE⟩
theorem xV1 (im:List (List Tx))(nm:List Tx)(i:Nat)(l:List E)(env:List Scp)(lp:List Tx)(file:Nat):Mono fun N=>rzEs (rzL im N) im nm i l env lp file:=fun _ _ r h h2=>(zG8 im (zB6 im h)).2.2.1 _ _ _ _ _ _ r h2
theorem yN0 (im:List (List Tx))(l:List D)(env:List Scp)(lp:List Tx)(file:Nat):Mono fun N=>rzDs (rzL im N) im l env lp file:=fun _ _ r h h2=>(zG8 im (zB6 im h)).2.2.2 _ _ _ _ r h2
theorem monoE (im:List (List Tx))(l:E)(env:List Scp)(lp:List Tx)(file:Nat):Mono fun N=>rzE (rzL im N) im l env lp file:=fun _ _ r h h2=>(zG8 im (zB6 im h)).1 _ _ _ _ r h2
theorem monoD (im:List (List Tx))(l:D)(env:List Scp)(lp:List Tx)(file:Nat):Mono fun N=>rzD (rzL im N) im l env lp file:=fun _ _ r h h2=>(zG8 im (zB6 im h)).2.1 _ _ _ _ r h2
theorem zB9 {R:RF}{U:UseR Bool}(hR:RefOk R U):yH5 R U:=by
 have H:(∀ e,∀ env lp file σ σ' e',VisE R U e env lp file σ σ' e'→Pre R.imps σ→EnvL σ.ρ.objs σ.en env→Con R.imps σ σ' (fun N=>rzE (rzL R.imps N) R.imps (plE e) (pv σ.ρ.objs env) lp file) (plE e'))∧
   (∀ d,∀ env lp file σ σ' d',VisD R U d env lp file σ σ' d'→Pre R.imps σ→EnvL σ.ρ.objs σ.en env→Con R.imps σ σ' (fun N=>rzD (rzL R.imps N) R.imps (plD d) (pv σ.ρ.objs env) lp file) (plD d'))∧
   (∀ l,∀ i nm env lp file σ σ' l',zW1 R U l i nm env lp file σ σ' l'→Pre R.imps σ→EnvL σ.ρ.objs σ.en env→Con R.imps σ σ' (fun N=>rzEs (rzL R.imps N) R.imps nm i (plEs l) (pv σ.ρ.objs env) lp file) (plEs l'))∧
   ∀ l,∀ env lp file σ σ' l',zX7 R U l env lp file σ σ' l'→Pre R.imps σ→EnvL σ.ρ.objs σ.en env→Con R.imps σ σ' (fun N=>rzDs (rzL R.imps N) R.imps (plDs l) (pv σ.ρ.objs env) lp file) (plDs l'):=
  zX4 (fun k t m a b As cs subs Ad cd decls At ct tail pos h1 h2 env lp file σ σ' e' h hP hE=>by
    rw[VisE] at h
    rcases h with ⟨rfl,h⟩ | ⟨hk,σ1,subs',σ2,env2,decls',As',cs',Ad',cd',At',ct',hs,hd,hds,rfl⟩
    ·exact hR σ t m a b As cs subs Ad cd decls At ct tail pos env lp file σ' e' h hP hE
    ·have c1:=h1 _ _ _ _ _ _ _ _ hs hP hE
     obtain⟨e1,p1⟩:=c1.envL hP hE
     have hmid:∃ penv,penv=(if k=13 then xW6 (plDs decls) file ::pv σ.ρ.objs env else pv σ.ρ.objs env)∧Con R.imps σ1 σ2 (fun _=>some ((),false)) ()∧EnvL σ2.ρ.objs σ2.en env2∧pv σ2.ρ.objs env2=penv:=by
      rcases hd with ⟨hk13,hd⟩ | ⟨hk13,rfl,rfl⟩
      ·obtain⟨d1,d2,d3⟩:=dcl_con hd c1.pre e1
       exact⟨_,rfl,d1,d2,by rw[d3,p1,if_pos hk13]⟩
      ·exact⟨_,rfl,Con.nil_ c1.pre (),e1,by rw[p1,if_neg hk13]⟩
     obtain⟨penv,hpe,c2,e2,p2⟩:=hmid
     have c3:=h2 _ _ _ _ _ _ hds c2.pre e2
     rw[p2] at c3
     have c4:=c2.silent c3 c1.ok (yN0 _ _ _ _ _)
     refine(c1.seq (fun s d=>E.mk k t m a b s d tail pos) c4 hP.ok (xV1 _ _ _ _ _ _ _) (yN0 _ _ _ _ _)).cast (fun N=>?_) (by rw[plE])
     rw[plE,rzE,if_neg hk,hpe])
   (fun k p l a b As cs subs Ab cb body At ct tail Al cl lead tr pos h1 h2 env lp file σ σ' d' h hP hE=>by
    rw[VisD] at h
    obtain⟨σ1,subs',body',As',cs',Ab',cb',At',ct',Al',cl',hs,hb,rfl⟩:=h
    have c1:=h1 _ _ _ _ _ _ _ _ hs hP hE
    obtain⟨e1,p1⟩:=c1.envL hP hE
    have c2:=h2 _ _ _ _ _ _ hb c1.pre e1
    rw[p1] at c2
    refine(c1.seq (fun s d=>D.mk k p l a b s d tail lead tr pos) c2 hP.ok (xV1 _ _ _ _ _ _ _) (yN0 _ _ _ _ _)).cast (fun N=>?_) (by rw[plD])
    rw[plD,rzD])
   (fun i nm env lp file σ σ' l' h hP hE=>by
    rw[zW1] at h
    obtain⟨rfl,rfl⟩:=h
    exact(Con.nil_ hP ([]:List E)).cast (fun N=>by rw[plEs,rzEs]) (by rw[plEs]))
   (fun e l h1 h2 i nm env lp file σ σ' l' h hP hE=>by
    rw[zW1] at h
    obtain⟨σ1,e1,r1,he,hl,rfl⟩:=h
    have c1:=h1 _ _ _ _ _ _ he hP hE
    obtain⟨q1,p1⟩:=c1.envL hP hE
    have c2:=h2 _ _ _ _ _ _ _ _ hl c1.pre q1
    rw[p1] at c2
    exact(c1.seq List.cons c2 hP.ok (monoE _ _ _ _ _) (xV1 _ _ _ _ _ _ _)).cast (fun N=>by rw[plEs,rzEs]) (by rw[plEs]))
   (fun env lp file σ σ' l' h hP hE=>by
    rw[zX7] at h
    obtain⟨rfl,rfl⟩:=h
    exact(Con.nil_ hP ([]:List D)).cast (fun N=>by rw[plDs,rzDs]) (by rw[plDs]))
   (fun d l h1 h2 env lp file σ σ' l' h hP hE=>by
    rw[zX7] at h
    obtain⟨σ1,d1,r1,hd,hl,rfl⟩:=h
    have c1:=h1 _ _ _ _ _ _ hd hP hE
    obtain⟨q1,p1⟩:=c1.envL hP hE
    have c2:=h2 _ _ _ _ _ _ hl c1.pre q1
    rw[p1] at c2
    exact(c1.seq List.cons c2 hP.ok (monoD _ _ _ _ _) (yN0 _ _ _ _ _)).cast (fun N=>by rw[plDs,rzDs]) (by rw[plDs]))
 exact⟨H.1,H.2.2.2⟩
theorem resOk {R:RF}{U:UseR Bool}(hT:yH5 R U){σ σ':GS Bool}{b:Nat}{e':EA}(hRes:ResO R U σ b σ' e')(hP:Pre R.imps σ){o:Ob}(ho:o∈σ.ρ.objs)(hob:o.blk=b) :
  Con R.imps σ σ' (fun N=>rzO R.imps σ N o) (plE e')∧(σ'.ρ.cyc=false→∀ o'∈σ'.ρ.objs,o'.blk=b→o'.hgt=(htE 17 (plE e'):Nat)):=by
 obtain⟨o0,ho0,hb0,hcase⟩:=hRes
 obtain rfl:o0=o:=zQ7 hP.ok.nd ho0 ho (hb0.trans hob.symm)
 clear hb0 ho0
 rcases hcase with ⟨hact,rfl,rfl⟩ | ⟨hact,hdn,rfl,rfl⟩ | ⟨hact,hdn,e0,σ1,hsub,hvis,rfl⟩
 ·have hg:Grw σ {σ with ρ:={σ.ρ with cyc:=true}}:=Grw.map hP.ok.nd (g:=id) (by simp) (fun _=>⟨rfl,rfl,rfl,rfl⟩) (fun _ _=>rfl) rfl
  exact⟨⟨hg,hP.ok.map (g:=id) (by simp) (fun _=>⟨rfl,rfl,rfl,rfl⟩) rfl,fun _=>rfl,fun h=>h,fun h=>(by cases h),fun h=>(by cases h),fun N hN hA=>absurd (hA o0 ho hact) hN⟩,fun h=>(by cases h)⟩
 ·refine⟨⟨Grw.refl hP.ok.nd,hP.ok,fun h=>h,fun h=>h,hP.dn,fun hc=>?_,fun _ _ _=>rfl⟩,fun hc o' ho' e=>?_⟩
  ·obtain⟨N,dp,h1,h2,_⟩:=hP.dn hc o0 ho hact hdn
   refine⟨N,dp,h1,?_⟩
   cases dp with
   | false=>rw[Bool.or_false]
   | true=>rw[h2 rfl];rfl
  ·obtain⟨N,dp,h1,h2,h3⟩:=hP.dn hc o0 ho hact hdn
   rw[zQ7 hP.ok.nd ho' ho (e.trans hob.symm)]
   exact h3
 ·subst hob
  have hga:∀ x,(actO x).blk=x.blk∧(actO x).d=x.d∧(actO x).sc=x.sc∧(actO x).file=x.file:=fun _=>⟨rfl,rfl,rfl,rfl⟩
  have hgd:∀ x,(zR3 e' x).blk=x.blk∧(zR3 e' x).d=x.d∧(zR3 e' x).sc=x.sc∧(zR3 e' x).file=x.file:=fun _=>⟨rfl,rfl,rfl,rfl⟩
  obtain⟨σa,hσa⟩:∃ q:GS Bool,q= {σ with ρ:=σ.ρ.at_ o0.blk actO}:=⟨_,rfl⟩
  have hoa:σa.ρ.objs=σ.ρ.objs.map (atOb o0.blk actO):=by rw[hσa];rfl
  have hea:σa.en=σ.en:=by rw[hσa]
  have hca:σa.ρ.cyc=σ.ρ.cyc:=by rw[hσa];rfl
  have hxa:σa.x=σ.x:=by rw[hσa]
  rw[←hσa] at hvis
  clear hσa
  have hBa:Grb σ σa:=Grb.map hoa (zU8 hga) hea
  have hka:OkS σa:=hP.ok.map hoa (zU8 hga) hea
  have hPa:Pre R.imps σa:=⟨hka,fun hc=>(hP.dn (hca.symm.trans hc)).grb hBa hP.ok hka (fun h=>hxa.trans h) fun o1 h1 ha hd=>by
   rw[hoa] at h1
   obtain⟨y,hy,rfl⟩:=List.mem_map.1 h1
   by_cases hb:y.blk=o0.blk
   ·have e:atOb o0.blk actO y=actO y:=if_pos hb
    rw[e] at ha
    cases ha
   ·have e:atOb o0.blk actO y=y:=if_neg hb
    rw[e] at ha hd ⊢
    exact⟨y,hy,rfl,ha,hd,rfl,rfl⟩⟩
  have hEa:EnvL σa.ρ.objs σa.en (σ.en o0.sc):=hBa.envL (hP.ok.en o0 ho)
  have hC:=hT.e e0 (σ.en o0.sc) [] o0.file σa σ1 e' hvis hPa hEa
  rw[hBa.pv hP.ok.nd hka.nd (hP.ok.en o0 ho)] at hC
  have hrz:∀ N,rzO R.imps σ (N+1) o0=rzE (rzL R.imps N) R.imps (plE e0) (pv σ.ρ.objs (σ.en o0.sc)) [] o0.file:=fun N=>by
   unfold rzO
   rw[hsub]
   rfl
  obtain⟨σ2,hσ2⟩:∃ q:GS Bool,q= {σ1 with ρ:=σ1.ρ.at_ o0.blk (zR3 e')}:=⟨_,rfl⟩
  have ho2:σ2.ρ.objs=σ1.ρ.objs.map (atOb o0.blk (zR3 e')):=by rw[hσ2];rfl
  have he2:σ2.en=σ1.en:=by rw[hσ2]
  have hc2:σ2.ρ.cyc=σ1.ρ.cyc:=by rw[hσ2];rfl
  have hx2:σ2.x=σ1.x:=by rw[hσ2]
  rw[←hσ2]
  clear hσ2
  have hB2:Grb σ1 σ2:=Grb.map ho2 (zU8 hgd) he2
  have hk2:OkS σ2:=hC.ok.map ho2 (zU8 hgd) he2
  have hBB:Grb σ σ2:=(hBa.trans hC.gr.b).trans hB2
  have hG:Grw σ σ2:=by
   refine⟨hBB,fun x hx x2 h2 e=>?_,fun x2 h2 ha=>?_⟩
   ·rw[ho2] at h2
    obtain⟨y,hy,rfl⟩:=List.mem_map.1 h2
    have eb:=(zU8 (b:=o0.blk) hgd y).1
    by_cases hb:y.blk=o0.blk
    ·have e1:atOb o0.blk (zR3 e') y=zR3 e' y:=if_pos hb
     have e2:x=o0:=zQ7 hP.ok.nd hx ho (e.symm.trans (eb.trans hb))
     rw[e1,e2,hact]
     rfl
    ·have e1:atOb o0.blk (zR3 e') y=y:=if_neg hb
     rw[e1] at e ⊢
     have hxa:x∈σa.ρ.objs:=by
      rw[hoa]
      refine List.mem_map.2 ⟨x,hx,if_neg fun h=>hb (e.trans h)⟩
     exact hC.gr.ac x hxa y hy e
   ·rw[ho2] at h2
    obtain⟨y,hy,rfl⟩:=List.mem_map.1 h2
    have eb:=(zU8 (b:=o0.blk) hgd y).1
    by_cases hb:y.blk=o0.blk
    ·have e1:atOb o0.blk (zR3 e') y=zR3 e' y:=if_pos hb
     rw[e1] at ha
     cases ha
    ·have e1:atOb o0.blk (zR3 e') y=y:=if_neg hb
     rw[e1] at ha ⊢
     obtain⟨xa,h3,e3⟩:=hC.gr.nw y hy ha
     rw[hoa] at h3
     obtain⟨z,hz,rfl⟩:=List.mem_map.1 h3
     exact⟨z,hz,(zU8 (b:=o0.blk) hga z).1.symm.trans e3⟩
  refine⟨⟨hG,hk2,fun h=>hc2.trans (hC.cy (hca.trans h)),fun h=>hx2.trans (hC.fl (hxa.trans h)),fun hc x2 h2 ha hd=>?_,fun hc=>?_,fun N hN hA=>?_⟩,fun hc x2 h2 e=>?_⟩
  ·have hc1:σ1.ρ.cyc=false:=hc2.symm.trans hc
   have h2':=h2
   rw[ho2] at h2
   obtain⟨y,hy,rfl⟩:=List.mem_map.1 h2
   by_cases hb:y.blk=o0.blk
   ·have e1:atOb o0.blk (zR3 e') y=zR3 e' y:=if_pos hb
    obtain⟨N,dp,h4,h5⟩:=hC.rs hc1
    refine⟨N+1,dp,?_,fun hdp=>?_,?_⟩
    ·rw[hBB.rzO hP.ok hk2 ho h2' ((zU8 hgd y).1.trans hb),hrz,h4,e1]
     rfl
    ·rw[hx2,h5,hdp,Bool.or_true]
    ·rw[e1]
     rfl
   ·have e1:atOb o0.blk (zR3 e') y=y:=if_neg hb
    rw[e1] at ha hd h2' ⊢
    obtain⟨N,dp,h4,h5,h6⟩:=hC.dn hc1 y hy ha hd
    exact⟨N,dp,by rw[hB2.rzO hC.ok hk2 hy h2' rfl,h4],fun hdp=>hx2.trans (h5 hdp),h6⟩
  ·obtain⟨N,dp,h4,h5⟩:=hC.rs (hc2.symm.trans hc)
   exact⟨N+1,dp,by rw[hrz,h4],by rw[hx2,h5,hxa]⟩
  ·obtain⟨q,hq,h1,h2⟩:=least (rz:=fun N=>rzO R.imps σ N o0) hN
   match q,hq,h1,h2 with
   | 0,_,h1,_=>exact absurd rfl h1
   | q+1,hq,h1,h2=>
     rw[hrz] at h1
     rw[hc2,hC.fu q h1 (fun xa h3 ha=>?_),hca]
     have h3':=h3
     rw[hoa] at h3
     obtain⟨z,hz,rfl⟩:=List.mem_map.1 h3
     rw[hBa.rzO hP.ok hka hz h3' (zU8 hga z).1]
     by_cases hb:z.blk=o0.blk
     ·rw[zQ7 hP.ok.nd hz ho hb]
      exact h2 q (by omega)
     ·have e1:atOb o0.blk actO z=z:=if_neg hb
      rw[e1] at ha
      exact(yH3 R.imps σ z).ne (by omega:q≤N) (hA z hz ha)
  ·rw[ho2] at h2
   obtain⟨y,hy,rfl⟩:=List.mem_map.1 h2
   have e1:atOb o0.blk (zR3 e') y=zR3 e' y:=if_pos ((zU8 hgd y).1.symm.trans e)
   rw[e1]
   rfl
theorem deep_grw {σ:GS Bool}(hk:OkS σ):Grw σ {σ with x:=true}∧OkS ({σ with x:=true}:GS Bool):=
 ⟨Grw.map hk.nd (g:=id) (by simp) (fun _=>⟨rfl,rfl,rfl,rfl⟩) (fun _ _=>rfl) rfl,hk.map (g:=id) (by simp) (fun _=>⟨rfl,rfl,rfl,rfl⟩) rfl⟩
theorem yH6 {R:RF}{U:UseR Bool}(hT:yH5 R U):RefOk R (RsC R U):=by
 intro σ t m a b As cs subs Ad cd decls At ct tail pos env lp file σ' e' hU hP hE
 have hm:=mark_con hP file t (zW6 R.imps env lp file t)
 obtain⟨σm,hσm⟩:∃ q:GS Bool,q= {σ with ρ:=zU5 file t (zW6 R.imps env lp file t) σ.ρ}:=⟨_,rfl⟩
 rw[←hσm] at hU hm
 clear hσm
 have hrz:∀ N,rzE (rzL R.imps N) R.imps (plE (.mk 10 t m a b As cs subs Ad cd decls At ct tail pos)) (pv σ.ρ.objs env) lp file=match (resR R.imps (pv σ.ρ.objs env) lp file t).2.2 with
   | none=>some (refT t (resR R.imps (pv σ.ρ.objs env) lp file t).1 (resR R.imps (pv σ.ρ.objs env) lp file t).2.1 [] pos,false)
   | some x=>(rzL R.imps N x.1.subs x.1.file x.2).map (yK4 t (resR R.imps (pv σ.ρ.objs env) lp file t).1 (resR R.imps (pv σ.ρ.objs env) lp file t).2.1 pos):=fun N=>by
  rw[plE,rzE,if_pos rfl]
  rfl
 obtain⟨x,hx⟩:∃ q,q=zW6 R.imps env lp file t:=⟨_,rfl⟩
 have hf:=findA_pv hP.ok.nd R.imps lp file t hE
 rw[←hx] at hU hf
 clear hx
 rcases hf with ⟨h1,h2⟩ | ⟨o,ho,h1,nm,h2⟩
 ·simp only[h2] at hrz
  have hU':σ'=σm∧e'=refA t x pos none 0 []:=by
   unfold RsC at hU
   simp only[h1] at hU
   exact hU
  obtain⟨rfl,rfl⟩:=hU'
  refine Con.cast (hm.silent (Con.nil_ hm.pre (refT t x.1 x.2.1 [] pos)) hP.ok (fun _ _ _ _ h=>h)) hrz ?_
  unfold refA
  rw[plE]
  rfl
 ·simp only[h2] at hrz
  have hU':∃ σ1 e1 o1,ResO R U σm o.blk σ1 e1∧o1∈σ1.ρ.objs∧o1.blk=o.blk∧
    ((16≤o1.hgt∧σ'= {σ1 with x:=true}∧e'=refA t x pos none 0 [])∨(o1.hgt < 16∧σ'=σ1∧∃ g,e'=refA t x pos (some ⟨g,0,none⟩) 1 [e1])):=by
   unfold RsC at hU
   simp only[h1] at hU
   exact hU
  obtain⟨σ1,e1,o1,hRes,ho1,hb1,hc⟩:=hU'
  obtain⟨om,hom,q1,_⟩:=hm.gr.b.ob o ho
  obtain⟨hC,hht⟩:=resOk hT hRes hm.pre hom q1
  have hrO:∀ N,rzO R.imps σm N om=rzO R.imps σ N o:=fun N=>hm.gr.b.rzO hP.ok hm.ok ho hom q1 N
  have hC0:=hm.silent (hC.cast (fun N=>(hrO N).symm) rfl) hP.ok (yH3 R.imps σ o)
  have hrz2:∀ N,rzE (rzL R.imps N) R.imps (plE (.mk 10 t m a b As cs subs Ad cd decls At ct tail pos)) (pv σ.ρ.objs env) lp file=(rzO R.imps σ N o).map (yK4 t x.1 x.2.1 pos):=fun N=>hrz N
  have hne:∀ N,rzE (rzL R.imps N) R.imps (plE (.mk 10 t m a b As cs subs Ad cd decls At ct tail pos)) (pv σ.ρ.objs env) lp file≠none→rzO R.imps σ N o≠none:=fun N hN h=>by
   rw[hrz2,h] at hN
   exact hN rfl
  rcases hc with ⟨h16,rfl,rfl⟩ | ⟨h16,rfl,g,rfl⟩
  ·obtain⟨hg,hk⟩:=deep_grw hC0.ok
   refine⟨hC0.gr.trans hg,hk,hC0.cy,fun _=>rfl,fun hcy=>(hC0.dn hcy).grb hg.b hC0.ok hk (fun _=>rfl) fun o2 h2 ha hd=>⟨o2,h2,rfl,ha,hd,rfl,rfl⟩,fun hcy=>?_,fun N hN hA=>hC0.fu N (hne N hN) hA⟩
   obtain⟨N,dp,h3,h4⟩:=hC0.rs hcy
   refine⟨N,true,?_,(Bool.or_true _).symm⟩
   have hh:=hht hcy o1 ho1 hb1
   rw[hrz2,h3,Option.map_some]
   unfold yK4
   rw[if_pos (by simp only;omega)]
   unfold refA
   rw[plE]
   rfl
  ·refine⟨hC0.gr,hC0.ok,hC0.cy,hC0.fl,hC0.dn,fun hcy=>?_,fun N hN hA=>hC0.fu N (hne N hN) hA⟩
   obtain⟨N,dp,h3,h4⟩:=hC0.rs hcy
   refine⟨N,dp,?_,h4⟩
   have hh:=hht hcy o1 ho1 hb1
   rw[hrz2,h3,Option.map_some]
   unfold yK4
   rw[if_neg (by simp only;omega)]
   unfold refA
   rw[plE,plEs,plEs,plDs]
   rfl
theorem xV2 (R:RF):∀ n,yH5 R (RsU R n)
 | 0=>zB9 (yH6 (zB9 (U:=fun _ _ _ _ _ _=>False) (fun _ _ _ _ _ _ _ _ _ _ _ _ _ _ _ _ _ _ _ _ h=>h.elim)))
 | n+1=>zB9 (yH6 (xV2 R n))
theorem monoFs (im:List (List Tx))(env:List Scp)(i:Nat)(l:List (List D)):Mono fun N=>rzFs im N env i l:=fun _ _ r h h2=>zB7 im h env l i r h2
theorem yH7 {R:RF}{n:Nat}{env:List ScA}:∀ {fs:List FA}{i:Nat}{σ σ':GS Bool}{rs:List (List DA)},zO2 R (RsU R n) env i fs σ σ' rs→Pre R.imps σ→EnvL σ.ρ.objs σ.en env→
  Con R.imps σ σ' (fun N=>rzFs R.imps N (pv σ.ρ.objs env) i (fs.map fun f=>plDs f.decls)) (rs.map plDs)
 | [],i,σ,σ',rs,⟨h1,h2⟩,hP,hE=>by
   subst h1 h2
   exact(Con.nil_ hP ([]:List (List D))).cast (fun N=>rfl) rfl
 | f ::fs,i,σ,σ',rs,⟨σ1,d1,r1,h1,h2,h3⟩,hP,hE=>by
   subst h3
   have c1:=(xV2 R n).ds _ _ _ _ _ _ _ h1 hP hE
   obtain⟨q1,p1⟩:=c1.envL hP hE
   have c2:=yH7 h2 c1.pre q1
   rw[p1] at c2
   exact(c1.seq List.cons c2 hP.ok (yN0 _ _ _ _ _) (monoFs _ _ _ _)).cast (fun N=>rfl) rfl
def zF7:Nat→List Fl→List Lt
 | _,[]=>[]
 | i,f ::r=>yS3 f.decls i++zF7 (i+1) r
def zG9 (fs:List Fl):Scp:=⟨fs.flatMap fun f=>zL3 f.decls,zF7 0 fs⟩
def Idle {X:Type}(σ:GS X):Prop:=∀ o∈σ.ρ.objs,o.act=false∧o.done=false
structure Lds (σ σ':GS Unit):Prop where
 gr:Grw σ σ'
 ok:OkS σ'
 id:Idle σ→Idle σ'
 cy:σ'.ρ.cyc=σ.ρ.cyc
theorem Lds.refl {σ:GS Unit}(h:OkS σ):Lds σ σ:=⟨Grw.refl h.nd,h,fun h=>h,rfl⟩
theorem Lds.trans {σ σ1 σ2:GS Unit}(h:Lds σ σ1)(k:Lds σ1 σ2):Lds σ σ2:=⟨h.gr.trans k.gr,k.ok,fun q=>k.id (h.id q),k.cy.trans h.cy⟩
theorem visL (R:RF):(∀ e,∀ env lp file σ σ' e',VisE R U0 e env lp file σ σ' e'→OkS σ→EnvL σ.ρ.objs σ.en env→Lds σ σ')∧(∀ d,∀ env lp file σ σ' d',VisD R U0 d env lp file σ σ' d'→OkS σ→EnvL σ.ρ.objs σ.en env→Lds σ σ')∧
  (∀ l,∀ i nm env lp file σ σ' l',zW1 R U0 l i nm env lp file σ σ' l'→OkS σ→EnvL σ.ρ.objs σ.en env→Lds σ σ')∧∀ l,∀ env lp file σ σ' l',zX7 R U0 l env lp file σ σ' l'→OkS σ→EnvL σ.ρ.objs σ.en env→Lds σ σ':=
 zX4 (fun k t m a b As cs subs Ad cd decls At ct tail pos h1 h2 env lp file σ σ' e' h hk hE=>by
   rw[VisE] at h
   rcases h with ⟨rfl,rfl,_⟩ | ⟨_,σ1,subs',σ2,env2,decls',As',cs',Ad',cd',At',ct',hs,hd,hds,_⟩
   ·obtain⟨g,q1,q2,q3⟩:=yH0 file t (zW6 R.imps env lp file t) σ.ρ
    have hg:∀ o,(g o).blk=o.blk∧(g o).d=o.d∧(g o).sc=o.sc∧(g o).file=o.file:=fun o=>⟨(q2 o).1,(q2 o).2.1,(q2 o).2.2.1,(q2 o).2.2.2.1⟩
    refine⟨Grw.map hk.nd (g:=g) q1 hg (fun o _=>(q2 o).2.2.2.2.1) rfl,hk.map (g:=g) q1 hg rfl,fun hi o ho=>?_,q3⟩
    have ho':o∈(zU5 file t (zW6 R.imps env lp file t) σ.ρ).objs:=ho
    rw[q1] at ho'
    obtain⟨y,hy,rfl⟩:=List.mem_map.1 ho'
    exact⟨(q2 y).2.2.2.2.1.trans (hi y hy).1,(q2 y).2.2.2.2.2.1.trans (hi y hy).2⟩
   ·have c1:=h1 _ _ _ _ _ _ _ _ hs hk hE
    have e1:=c1.gr.b.envL hE
    have hmid:Lds σ1 σ2∧EnvL σ2.ρ.objs σ2.en env2:=by
     rcases hd with ⟨_,hd⟩ | ⟨_,rfl,rfl⟩
     ·obtain⟨d1,d2,d3,_,_,d6,d7⟩:=xV0 hd c1.ok e1
      exact⟨⟨d1,d2,fun hi o ho=>(d7 o ho).elim (hi o) fun h=>h,d6⟩,d3⟩
     ·exact⟨Lds.refl c1.ok,e1⟩
    exact(c1.trans hmid.1).trans (h2 _ _ _ _ _ _ hds hmid.1.ok hmid.2))
  (fun k p l a b As cs subs Ab cb body At ct tail Al cl lead tr pos h1 h2 env lp file σ σ' d' h hk hE=>by
   rw[VisD] at h
   obtain⟨σ1,subs',body',As',cs',Ab',cb',At',ct',Al',cl',hs,hb,_⟩:=h
   have c1:=h1 _ _ _ _ _ _ _ _ hs hk hE
   exact c1.trans (h2 _ _ _ _ _ _ hb c1.ok (c1.gr.b.envL hE)))
  (fun i nm env lp file σ σ' l' h hk hE=>by
   rw[zW1] at h
   obtain⟨rfl,_⟩:=h
   exact Lds.refl hk)
  (fun e l h1 h2 i nm env lp file σ σ' l' h hk hE=>by
   rw[zW1] at h
   obtain⟨σ1,e1,r1,he,hl,_⟩:=h
   have c1:=h1 _ _ _ _ _ _ he hk hE
   exact c1.trans (h2 _ _ _ _ _ _ _ _ hl c1.ok (c1.gr.b.envL hE)))
  (fun env lp file σ σ' l' h hk hE=>by
   rw[zX7] at h
   obtain⟨rfl,_⟩:=h
   exact Lds.refl hk)
  (fun d l h1 h2 env lp file σ σ' l' h hk hE=>by
   rw[zX7] at h
   obtain⟨σ1,d1,r1,hd,hl,_⟩:=h
   have c1:=h1 _ _ _ _ _ _ hd hk hE
   exact c1.trans (h2 _ _ _ _ _ _ hl c1.ok (c1.gr.b.envL hE)))
theorem visFsL {R:RF}{env:List ScA}:∀ {fs:List FA}{i:Nat}{σ σ':GS Unit}{rs:List (List DA)},zO2 R U0 env i fs σ σ' rs→OkS σ→EnvL σ.ρ.objs σ.en env→Lds σ σ'
 | [],i,σ,σ',rs,⟨h1,_⟩,hk,_=>by
   subst h1
   exact Lds.refl hk
 | f ::fs,i,σ,σ',rs,⟨σ1,d1,r1,h1,h2,_⟩,hk,hE=>by
   have c1:=(visL R).2.2.2 _ _ _ _ _ _ _ h1 hk hE
   exact c1.trans (visFsL h2 c1.ok (c1.gr.b.envL hE))
theorem yX7:∀ (fs:List FA)(j:Nat),zF7 j (fs.map plF)=(tagF j fs).map fun q=>(⟨lblD q.2,(zU6 q.2).map plE,q.1⟩:Lt)
 | [],_=>rfl
 | f ::fs,j=>by
   rw[List.map_cons,zF7,tagF,List.map_append,yX7 fs (j+1),List.map_map]
   congr 1
   exact yH4 f.decls j
theorem root_ok {p:PA}{R:RF}{σ:GS Unit}{env:List ScA}(h:Root p R σ env):OkS σ∧EnvL σ.ρ.objs σ.en env∧Idle σ∧pv σ.ρ.objs env=[zG9 (plP p).files]:=by
 have hnd:(σ.ρ.objs.map (·.blk)).Nodup:=h.pw.imp fun {a b} hab=>by omega
 have hsc:∀ o∈σ.ρ.objs,o.sc=R.root:=fun o ho=>by rw[h.o3 o ho];rfl
 have hen:σ.en R.root=env:=by rw[h.en];exact if_pos rfl
 obtain⟨bF,bL,hev⟩:=h.ev
 have hE:EnvL σ.ρ.objs σ.en env:=by
  have h2:=hen
  rw[hev] at h2 ⊢
  refine⟨fun q hq=>?_,trivial⟩
  have hq':q∈(zZ8 p.files).zip (σ.ρ.objs.map (·.blk)):=hq
  obtain⟨o,ho,e⟩:=List.mem_map.1 (List.of_mem_zip hq').2
  exact⟨o,ho,e,by rw[hsc o ho];exact h2⟩
 refine⟨⟨hnd,fun o ho=>by rw[hsc o ho,hen];exact hE⟩,hE,fun o ho=>by rw[h.o3 o ho];exact⟨rfl,rfl⟩,?_⟩
 rw[hev]
 show [(⟨zW5 p.files,((zZ8 p.files).zip (σ.ρ.objs.map (·.blk))).map (ltAt σ.ρ.objs)⟩:Scp)]=[⟨(p.files.map plF).flatMap fun f=>zL3 f.decls,zF7 0 (p.files.map plF)⟩]
 have e1:(p.files.map plF).flatMap (fun f=>zL3 f.decls)=zW5 p.files:=by
  rw[List.flatMap_map]
  rfl
 have hl:σ.ρ.objs.length=(tagF 0 p.files).length:=by
  have:=congrArg List.length h.o2
  rwa [List.length_map] at this
 have hnm:zZ8 p.files=(tagF 0 p.files).map fun q=>lblD q.2:=by
  unfold zZ8
  rw[←zI5 p.files 0,List.map_map]
  rfl
 have e2:((zZ8 p.files).zip (σ.ρ.objs.map (·.blk))).map (ltAt σ.ρ.objs)=zF7 0 (p.files.map plF):=by
  rw[yX7]
  refine List.ext_getElem (by simp[hnm,hl]) fun i h1 h2=>?_
  have hi:i < (tagF 0 p.files).length:=by simpa using h2
  have hio:i < σ.ρ.objs.length:=by omega
  have ht:(tagF 0 p.files)[i]=(σ.ρ.objs[i].file,σ.ρ.objs[i].d):=by
   have:(tagF 0 p.files)[i]? = (σ.ρ.objs.map fun o=>(o.file,o.d))[i]?:=by rw[h.o2]
   rw[List.getElem?_eq_getElem hi,List.getElem?_map,List.getElem?_eq_getElem hio] at this
   simpa using this
  have hlt:=zB8 hnd (List.getElem_mem hio) (p:=(lblD (tagF 0 p.files)[i].2,σ.ρ.objs[i].blk)) rfl
  have hn:(zZ8 p.files)[i]'(by rw[hnm];simpa using hi)=lblD (tagF 0 p.files)[i].2:=by
   simp only[hnm,List.getElem_map]
  simp only[List.getElem_map,List.getElem_zip,hn]
  rw[hlt,ht]
 rw[e1,e2]
def rzP (n:Nat)(fs:List Fl):Option (List (List D) × Bool):=rzFs (fs.map fun f=>f.imps.map (·.name)) n [zG9 fs] 0 (fs.map (·.decls))
theorem yH8 (fs:List Fl):Mono fun n=>rzP n fs:=fun _ _ r h h2=>zB7 _ h _ _ _ r h2
theorem yN1 {p:PA}{R:RF}{σ0 σ:GS Unit}{env:List ScA}{rs0 rs:List (List DA)}{u:Value}{n:Nat}{σ':GS Bool}(hR:Root p R σ0 env)(hV:zO2 R U0 env 0 p.files σ0 σ rs0)
  (hV2:zO2 (R.with_ u) (RsU (R.with_ u) n) env 0 p.files (σ.put false) σ' rs) :
  (σ'.ρ.cyc=false→∃ N,rzP N (plP p).files=some (rs.map plDs,σ'.x))∧((∃ N,rzP N (plP p).files≠none)→σ'.ρ.cyc=false):=by
 obtain⟨h1,h2,h3,h4⟩:=root_ok hR
 have hL:=visFsL hV h1 h2
 have hE:=hL.gr.b.envL h2
 have hpv:=hL.gr.b.pv h1.nd hL.ok.nd h2
 have hid:=hL.id h3
 have hcy:σ.ρ.cyc=false:=hL.cy.trans hR.cy
 have hP:Pre (R.with_ u).imps (σ.put false):=⟨⟨hL.ok.nd,hL.ok.en⟩,fun _ o ho _ hd=>by rw[(hid o ho).2] at hd;cases hd⟩
 have hC:=yH7 hV2 hP hE
 have him:(R.with_ u).imps=(plP p).files.map fun f=>f.imps.map (·.name):=by
  show R.imps=_
  rw[hR.im]
  unfold zX5 plP
  rw[List.map_map]
  rfl
 have hds:p.files.map (fun f=>plDs f.decls)=(plP p).files.map (·.decls):=by
  unfold plP
  rw[List.map_map]
  rfl
 have hpv2:pv (σ.put false).ρ.objs env=[zG9 (plP p).files]:=hpv.trans h4
 have hrz:∀ N,rzFs (R.with_ u).imps N (pv (σ.put false).ρ.objs env) 0 (p.files.map fun f=>plDs f.decls)=rzP N (plP p).files:=fun N=>by
  unfold rzP
  rw[him,hpv2,hds]
 refine⟨fun hc=>?_,fun⟨N,hN⟩=>?_⟩
 ·obtain⟨N,dp,h5,h6⟩:=hC.rs hc
  refine⟨N,?_⟩
  have:σ'.x=dp:=by rw[h6];rfl
  rw[←hrz,h5,this]
 ·have:=hC.fu N (by rw[hrz];exact hN) fun o ho ha=>by rw[(hid o ho).1] at ha;cases ha
  rw[this]
  exact hcy
end Go.Proofs.YtdgehhgjgifikaaGreatDoor
