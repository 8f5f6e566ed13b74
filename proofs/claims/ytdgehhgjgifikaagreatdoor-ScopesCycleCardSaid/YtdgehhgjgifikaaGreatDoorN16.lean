/- What the claim needs of:YQ YR. -/
import Derived.Test.YtdgehhgjgifikaaGreatDoorN15
namespace Go.Proofs.YtdgehhgjgifikaaGreatDoor
open Go.RowKit
def SameOb (l l':List Ob):Prop:=∃ g:Ob→Ob,l'=l.map g∧∀ o,(g o).blk=o.blk∧(g o).d=o.d∧(g o).sc=o.sc∧(g o).file=o.file∧wOb (g o)=wOb o∧(g o).ex=o.ex
theorem SameOb.refl (l:List Ob):SameOb l l:=⟨id,by simp,fun _=>⟨rfl,rfl,rfl,rfl,rfl,rfl⟩⟩
theorem zD9 (file:Nat)(t:Tx)(x:Int × Int × Option Nat)(ρ:RS):SameOb ρ.objs (zU5 file t x ρ).objs∧(zU5 file t x ρ).all=ρ.all:=by
 unfold zU5
 split
 ·rename_i b _
  refine⟨⟨zR2 b,rfl,fun o=>?_⟩,rfl⟩
  unfold zR2
  split <;> exact⟨rfl,rfl,rfl,rfl,rfl,rfl⟩
 ·split <;> exact⟨SameOb.refl _,rfl⟩
theorem SameOb.blk {l l':List Ob}(h:SameOb l l')(b:Nat):(∃ o∈l',o.blk=b)↔∃ o∈l,o.blk=b:=by
 obtain⟨g,rfl,hg⟩:=h
 constructor
 ·rintro⟨o,ho,hb⟩
  obtain⟨y,hy,rfl⟩:=List.mem_map.1 ho
  exact⟨y,hy,(hg y).1.symm.trans hb⟩
 ·rintro⟨o,ho,hb⟩
  exact⟨g o,List.mem_map.2 ⟨o,ho,rfl⟩,(hg o).1.trans hb⟩
theorem SameOb.wt {l l':List Ob}(h:SameOb l l'):wObs l'=wObs l:=by
 obtain⟨g,rfl,hg⟩:=h
 unfold wObs
 rw[List.map_map]
 congr 1
 exact List.map_congr_left fun o _=>(hg o).2.2.2.2.1
section
variable {X:Type}{R:RF}{C:Clo X}{n s:Nat}{σ:GS X}{Im:Nat→Prop}{w w':World}
theorem St.stay (h:St R C n s σ Im w){M:Nat→Prop}(hM:∀ b,M b→(zn R C σ Im).Mut b):∀ b,Im b→¬ M b:=fun b hb hm=>(h.zo.mu b (hM b hm)).2 hb
theorem St.turn (h:St R C n s σ Im w){ρ':RS}(ha:ρ'.all=σ.ρ.all)(hob:SameOb σ.ρ.objs ρ'.objs){M:Nat→Prop}(hk:Kp M w w')(hM:∀ b,M b→b=R.r∨b∈R.uB∨∃ o∈σ.ρ.objs,o.blk=b)(hrs:RsAt R ρ' σ.av w'.heap.size w') :
  St R C n s {σ with ρ:=ρ'} Im w'∧Sp (zn R C σ Im) w (zn R C {σ with ρ:=ρ'} Im) w'∧Gr w σ {σ with ρ:=ρ'}:=by
 have hMM:∀ b,M b→(zn R C σ Im).Mut b:=fun b hb=>by
  rcases hM b hb with h1 | h1 | h1
  ·exact .inl h1
  ·exact .inr (.inl h1)
  ·exact .inr (.inr (.inl h1))
 have hMu:∀ b,(zn R C {σ with ρ:=ρ'} Im).Mut b↔(zn R C σ Im).Mut b:=fun b=>by
  show (b=R.r∨b∈R.uB∨(∃ o∈ρ'.objs,o.blk=b)∨σ.av.ownBlock=some b∨C.M σ.x b)↔(b=R.r∨b∈R.uB∨(∃ o∈σ.ρ.objs,o.blk=b)∨σ.av.ownBlock=some b∨C.M σ.x b)
  rw[hob.blk b]
 have hiN:=h.stay hMM
 have hs:=hk.size
 have hoB:∀ {b:Nat},(∀ o∈σ.ρ.objs,o.blk≠b)→∀ o∈ρ'.objs,o.blk≠b:=fun {b} hn o ho e=>by
  obtain⟨y,hy,e2⟩:=(hob.blk b).1 ⟨o,ho,e⟩
  exact hn y hy e2
 have hok:(zn R C {σ with ρ:=ρ'} Im).Ok w':=⟨fun b hb=>⟨Nat.lt_of_lt_of_le (h.zo.mu b ((hMu b).1 hb)).1 hs,(h.zo.mu b ((hMu b).1 hb)).2⟩,fun b hb=>Nat.lt_of_lt_of_le (h.zo.im b hb) hs⟩
 have hgr:Gr w σ {σ with ρ:=ρ'}:=⟨fun o ho=>(hob.blk _).2 ⟨o,ho,rfl⟩,fun _ _=>rfl⟩
 refine⟨⟨hrs,?_,C.keep h.cl hk fun b hb hm=>?_,hok,fun b hb=>?_,fun b hb=>?_,h.im,fun o ho=>?_,?_,?_⟩,⟨hk.mono hMM,fun b hb=>.inl ((hMu b).1 hb),fun _ h=>h,fun _ h=>.inl h,hok⟩,hgr⟩
 ·show w'.ownsRow 0 80 1 σ.av ρ'.all.length (ρ'.all.map lptr)
  rw[ha]
  refine zV5 h.al hk fun b hb hm=>?_
  obtain⟨h1,h2,h3⟩:=h.am b hb
  rcases hM b hm with h4 | h4 | ⟨o,ho,h4⟩
  ·exact h1 h4
  ·exact h2 h4
  ·exact h3 o ho h4
 ·obtain⟨h1,h2,h3,_⟩:=h.cm b hb
  rcases hM b hm with h4 | h4 | ⟨o,ho,h4⟩
  ·exact h1 h4
  ·exact h2 h4
  ·exact h3 o ho h4
 ·obtain⟨h1,h2,h3,h4⟩:=h.cm b hb
  exact⟨h1,h2,hoB h3,h4⟩
 ·obtain⟨h1,h2,h3⟩:=h.am b hb
  exact⟨h1,h2,hoB h3⟩
 ·obtain⟨g,hg1,hg2⟩:=hob
  have ho':o∈σ.ρ.objs.map g:=hg1▸ho
  obtain⟨y,hy,rfl⟩:=List.mem_map.1 ho'
  obtain⟨g1,g2,g3,g4,_,g6⟩:=hg2 y
  obtain⟨l1,l2,l3,l4,l5,l6,l7⟩:=(h.lo y hy).kept hk hiN (fun _ h=>h)
  exact⟨by rw[g2];exact l1,by rw[g2];exact l2,by rw[g3];exact l3,by rw[g3];exact EnvK.gr l4 hgr,by rw[g2,g3];exact l5,by rw[g4];exact l6,by rw[g6];exact l7⟩
 ·have:=h.bu
  show C.ct σ.x+(ρ'.all.length+wObs ρ'.objs+s)≤_
  rw[ha,hob.wt]
  exact this
 ·have:=h.lv
  show wObs ρ'.objs+s≤n
  rw[hob.wt]
  exact this
theorem St.find (h:St R C n s σ Im w)(file:Nat)(t:Tx)(x:Int × Int × Option Nat)(hk:Kp (MFind R σ.ρ.objs) w w')(hrs:RsAt R (zU5 file t x σ.ρ) σ.av w.heap.size w') :
  St R C n s {σ with ρ:=zU5 file t x σ.ρ} Im w'∧Sp (zn R C σ Im) w (zn R C {σ with ρ:=zU5 file t x σ.ρ} Im) w'∧Gr w σ {σ with ρ:=zU5 file t x σ.ρ}:=
 h.turn (zD9 file t x σ.ρ).2 (zD9 file t x σ.ρ).1 hk (fun _ hb=>.inr hb) (hrs.more hk.size)
theorem yA9 {g:Nat}{ty:TypeId}{cs:Array Value}{bs:List Nat}{l:List (List Tx)}{q:Nat→Nat}(hb:Blk w g ty cs)(hm:∀ (i:Nat)(h:i < bs.length),OMap KS w bs[i] (q i) (fF (l.getD i []))):∀ b∈bs,¬ b=g:=fun b hbm e=>by
 obtain⟨i,hi,rfl⟩:=List.mem_iff_getElem.1 hbm
 exact zY5 hb (hm i hi) e.symm
theorem St.cellR (h:St R C n s σ Im w){M:Nat→Prop}(hk:Kp M w w')(hM:∀ b,M b→b=R.r∨σ.av.ownBlock=some b){ρ':RS}{av':Value}(hu:ρ'.usedI=σ.ρ.usedI)(ho:ρ'.objs=σ.ρ.objs)
  (hrc:Blk w' R.r 86 #[.string ⟨R.path.toArray⟩,.slice R.FA R.nF R.cF,.pointer (some ⟨R.root,0,none⟩),.slice R.Ai R.iB.length R.ci,.slice R.Au R.uB.length R.cu,av',.bool ρ'.twice,.bool ρ'.cyc,R.use]):RsAt R ρ' av' w'.heap.size w':=by
 have hiN:∀ b,Im b→¬ M b:=h.stay fun b hb=>(hM b hb).elim .inl fun h=>.inr (.inr (.inr (.inl h)))
 have hs:=hk.size
 refine⟨hrc,Nat.lt_of_lt_of_le h.rs.rl hs,?_,?_⟩
 ·rw[hu]
  exact(h.rs.mp.keptA hk (imN h.im.1 hiN) (imN h.im.2.1 hiN) (fun b hb=>hiN b (h.im.2.2 b hb)) (fun b hb hm=>(hM b hm).elim (yA9 h.rs.rc h.rs.mp.mu b hb) fun h2=>(h.am b h2).2.1 hb)).more hs
 ·rw[ho]
  exact(h.rs.ob.kept hk fun o ho hm=>(hM _ hm).elim (zS7 (h.rs.ob.at_ o ho) h.rs.rc (by decide)) fun h2=>(h.am _ h2).2.2 o ho rfl).more hs
theorem St.flag (h:St R C n s σ Im w)(b:Bool):St R C n s {σ with ρ:={σ.ρ with twice:=b}} Im (w.setCell ⟨R.r,6,none⟩ (.bool b))∧Sp (zn R C σ Im) w (zn R C {σ with ρ:={σ.ρ with twice:=b}} Im) (w.setCell ⟨R.r,6,none⟩ (.bool b))∧Gr w σ {σ with ρ:={σ.ρ with twice:=b}}:=by
 have hk:Kp (· = R.r) w (w.setCell ⟨R.r,6,none⟩ (.bool b)):=(Kp.refl (· = R.r) w).setCell (p:=⟨R.r,6,none⟩) rfl _
 refine h.turn (ρ':={σ.ρ with twice:=b}) rfl (SameOb.refl _) hk (fun _ hb=>.inl hb) (h.cellR hk (fun _ h=>.inl h) rfl rfl ?_)
 have:=h.rs.rc.set_ 6 (.bool b)
 simpa using this
def zW8 (bs:List Nat)(ds:List DA)(sc file:Nat):List Ob:=(bs.zip ds).map fun p=>zL4 p.1 sc file zO0 p.2
theorem xZ0 {bs:List Nat}{ds:List DA}{sc file:Nat}{o:Ob}(h:o∈zW8 bs ds sc file):o.ex=zO0:=by
 obtain⟨p,_,rfl⟩:=List.mem_map.1 h
 rfl
def scOf (sB bF bL:Nat)(bs:List Nat)(l:List DA):ScA:=⟨sB,bF,bL,zY2 l,((zZ7 l).map lblD).zip bs⟩
def GS.scope (σ:GS X)(sB bF bL:Nat)(bs:List Nat)(l:List DA)(file:Nat)(env:List ScA):GS X:=
 {σ with ρ:={σ.ρ with objs:=σ.ρ.objs++zW8 bs (zZ7 l) sB file},en:=fun i=>if i=sB then scOf sB bF bL bs l ::env else σ.en i}
theorem zC0 (b sc file:Nat)(d:DA):obV (zL4 b sc file zO0 d)=letV d sc file:=by
 cases d
 rfl
theorem yQ8:∀ (bs:List Nat)(ds:List DA)(sc file:Nat),bs.length=ds.length→wObs (zW8 bs ds sc file)+ds.length=(ds.map fun d=>2+wEs (zU6 d)).sum
 | [],[],_,_,_=>rfl
 | b ::bs,d ::ds,sc,file,h=>by
   have ih:=yQ8 bs ds sc file (by simpa using h)
   unfold zW8 wObs at *
   simp only[List.zip_cons_cons,List.map_cons,List.sum_cons,List.length_cons] at *
   have:wOb (zL4 b sc file zO0 d)=1+wEs (zU6 d):=rfl
   rw[this]
   omega
theorem yV6:∀ l:List DA,((zZ7 l).map fun d=>2+wEs (zU6 d)).sum=bDs l
 | []=>rfl
 | d ::l=>by
   have ih:=yV6 l
   have e1:zZ7 (d ::l)=if zD6 d=true then d ::zZ7 l else zZ7 l:=List.filter_cons ..
   have e2:bD d=if zD6 d=true then 2+wEs (zU6 d) else 0:=by
    cases d with
    | mk k p lb a b As cs subs Ab cb body At ct tail Al cl lead tr pos=>
      show (if k=4 then _ else _)=if decide (k=4)=true then _ else _
      by_cases hk:k=4 <;> simp[hk,zU6]
   rw[e1,bDs,e2]
   split
   ·rw[List.map_cons,List.sum_cons,ih]
   ·rw[ih,Nat.zero_add]
theorem hD_le:∀ {l:List DA}{d:DA},d∈l→hD d≤hDs l
 | x ::l,d,h=>by
   unfold hDs
   rcases List.mem_cons.1 h with rfl | h
   ·omega
   ·have:=hD_le h;omega
def xZ1 {X:Type}(σ:GS X)(sB:Nat)(bs:List Nat):Prop:=(∀ o∈σ.ρ.objs,o.sc≠sB∧o.blk∉bs)∧bs.Nodup
theorem St.freshD {sB:Nat}{bs:List Nat}(h:St R C n s σ Im w)(h1:w.heap.size≤sB)(hn:∀ b∈bs,w.heap.size≤b)(hp:bs.Pairwise (· < ·)):xZ1 σ sB bs:=by
 refine⟨fun o ho=>⟨fun e=>?_,fun hb=>?_⟩,hp.imp fun {a b} hab=>by omega⟩
 ·have h3:=(h.lo o ho).env.1
  cases hen:σ.en o.sc with
  | nil=>rw[hen] at h3;cases h3
  | cons x r=>
    rw[hen] at h3
    obtain⟨h4,h5,_⟩:=h3
    injection h4 with h4
    injection h4 with h4
    injection h4 with h4
    omega
 ·have:=h.rs.ob.lt o ho
  have:=hn _ hb
  omega
theorem St.scope {q:Nat}{w2:World}{sB bF bL file:Nat}{bs:List Nat}{l:List DA}{v:Value}{env:List ScA}(h:St R C n (s+q) σ Im w)(hb:Below w.heap.size w w2)(h1:w.heap.size≤sB)(h2:w.heap.size≤bF)(h3:w.heap.size≤bL)
  (hS:Blk w2 sB 122 #[.map (some bF),.map (some bL),v,.int .i64 (env.length:Nat)])(hF:OMap KS w2 bF (zY2 l).length (fF (zY2 l)))(hL:OMap KS w2 bL bs.length (fL (((zZ7 l).map lblD).zip bs)))(hne:bF≠bL)
  (hB:∀ p∈bs.zip (zZ7 l),Blk w2 p.1 102 (letV p.2 sB file))(hn:∀ b∈bs,w.heap.size≤b)(hp:bs.Pairwise (· < ·))(hlen:bs.length=(zZ7 l).length)(hE:EnvI Im w v env)(hK:EnvK σ.ρ.objs env)(hO:OkIds Im w l)(hf:file < R.uB.length)(hd:env.length+1+hDs l≤1000)
  (hq:wObs (zW8 bs (zZ7 l) sB file)≤q) :
  St R C n s (σ.scope sB bF bL bs l file env) (fun b=>Im b∨b=sB∨b=bF∨b=bL) w2∧Sp (zn R C σ Im) w (zn R C (σ.scope sB bF bL bs l file env) fun b=>Im b∨b=sB∨b=bF∨b=bL) w2∧Gr w σ (σ.scope sB bF bL bs l file env)∧
   EnvI (fun b=>Im b∨b=sB∨b=bF∨b=bL) w2 (.pointer (some ⟨sB,0,none⟩)) (scOf sB bF bL bs l ::env)∧EnvK (σ.scope sB bF bL bs l file env).ρ.objs (scOf sB bF bL bs l ::env):=by
 have hs:=hb.size
 have hI:∀ b,Im b→Im b∨b=sB∨b=bF∨b=bL:=fun b hb=>.inl hb
 have hkN:Kp (fun b=>w.heap.size≤b) w w2:=Kp.low hb
 have hiN:∀ b,Im b→¬ w.heap.size≤b:=fun b hb=>by have:=h.zo.im b hb;omega
 have hblks:∀ o∈zW8 bs (zZ7 l) sB file,o.blk∈bs∧Blk w2 o.blk 102 (obV o)∧o.d∈zZ7 l∧o.sc=sB∧o.file=file:=fun o ho=>by
  obtain⟨p,hp,rfl⟩:=List.mem_map.1 ho
  exact⟨(List.of_mem_zip hp).1,by rw[zC0];exact hB p hp,(List.of_mem_zip hp).2,rfl,rfl⟩
 have hbmem:∀ b∈bs,∃ o∈zW8 bs (zZ7 l) sB file,o.blk=b:=fun b hb=>by
  obtain⟨i,hi,rfl⟩:=List.mem_iff_getElem.1 hb
  refine⟨zL4 bs[i] sB file zO0 ((zZ7 l)[i]'(by omega)),List.mem_map.2 ⟨(bs[i],(zZ7 l)[i]'(by omega)),?_,rfl⟩,rfl⟩
  rw[List.mem_iff_getElem]
  exact⟨i,by simp;omega,by simp⟩
 have hmap:(zW8 bs (zZ7 l) sB file).map (·.blk)=bs:=by
  unfold zW8
  rw[List.map_map]
  have:((fun x:Ob=>x.blk) ∘ fun p:Nat × DA=>zL4 p.1 sB file zO0 p.2)=Prod.fst:=rfl
  rw[this,List.map_fst_zip (by omega)]
 have hnlt:∀ b∈bs,b < w2.heap.size:=fun b hb=>by
  obtain⟨o,ho,rfl⟩:=hbmem b hb
  exact(hblks o ho).2.1.lt
 have hgr:Gr w σ (σ.scope sB bF bL bs l file env):=⟨fun o ho=>⟨o,List.mem_append_left _ ho,rfl⟩,fun b hb=>by
  show (if b=sB then _ else σ.en b)=σ.en b
  rw[if_neg (by omega)]⟩
 have hEK:EnvK (σ.scope sB bF bL bs l file env).ρ.objs (scOf sB bF bL bs l ::env):=fun x hx p hp=>by
  rcases List.mem_cons.1 hx with rfl | hx
  ·obtain⟨o,ho,e⟩:=hbmem p.2 (List.of_mem_zip hp).2
   exact⟨o,List.mem_append_right _ ho,e⟩
  ·exact(hK.gr hgr) x hx p hp
 have hEI:EnvI (fun b=>Im b∨b=sB∨b=bF∨b=bL) w2 (.pointer (some ⟨sB,0,none⟩)) (scOf sB bF bL bs l ::env):=by
  have hE2:=hE.kept hkN hiN hI
  refine⟨⟨rfl,hS.lt,hF.lt,hL.lt,hne,hF,?_,v,hS,hE2.1⟩,fun x hx=>?_⟩
  ·show OMap KS w2 bL (((zZ7 l).map lblD).zip bs).length _
   have:(((zZ7 l).map lblD).zip bs).length=bs.length:=by simp[hlen]
   rw[this]
   exact hL
  ·rcases List.mem_cons.1 hx with rfl | hx
   ·exact⟨.inr (.inl rfl),.inr (.inr (.inl rfl)),.inr (.inr (.inr rfl))⟩
   ·exact hE2.2 x hx
 have hmu:∀ b,(zn R C (σ.scope sB bF bL bs l file env) fun b=>Im b∨b=sB∨b=bF∨b=bL).Mut b→(zn R C σ Im).Mut b∨b∈bs:=fun b hb=>by
  rcases hb with h4 | h4 | ⟨o,ho,h4⟩ | h4 | h4
  ·exact .inl (.inl h4)
  ·exact .inl (.inr (.inl h4))
  ·rcases List.mem_append.1 ho with ho | ho
   ·exact .inl (.inr (.inr (.inl ⟨o,ho,h4⟩)))
   ·exact .inr (h4▸(hblks o ho).1)
  ·exact .inl (.inr (.inr (.inr (.inl h4))))
  ·exact .inl (.inr (.inr (.inr (.inr h4))))
 have hok:(zn R C (σ.scope sB bF bL bs l file env) fun b=>Im b∨b=sB∨b=bF∨b=bL).Ok w2:=by
  refine⟨fun b hb=>?_,fun b hb=>?_⟩
  ·rcases hmu b hb with h4 | h4
   ·have h5:=h.zo.mu b h4
    refine⟨by omega,?_⟩
    rintro(h6 | h6 | h6 | h6)
    ·exact h5.2 h6
    all_goals omega
   ·refine⟨hnlt b h4,?_⟩
    obtain⟨o,ho,rfl⟩:=hbmem b h4
    have hbl:=(hblks o ho).2.1
    rintro(h6 | h6 | h6 | h6)
    ·have:=h.zo.im _ h6
     have:=hn _ h4
     omega
    ·exact zS7 hbl hS (by decide) h6
    ·exact zY5 hbl hF h6
    ·exact zY5 hbl hL h6
  ·rcases hb with h6 | h6 | h6 | h6
   ·have:=h.zo.im _ h6;omega
   ·rw[h6];exact hS.lt
   ·rw[h6];exact hF.lt
   ·rw[h6];exact hL.lt
 have hMut0:∀ b,(zn R C σ Im).Mut b→b < w.heap.size:=fun b hb=>(h.zo.mu b hb).1
 have hkm:∀ b,(zn R C σ Im).Mut b→¬ w.heap.size≤b:=fun b hb=>by have:=hMut0 b hb;omega
 refine⟨⟨⟨?_,?_,?_,?_⟩,?_,?_,hok,fun b hb=>?_,fun b hb=>?_,?_,fun o ho=>?_,?_,?_⟩,⟨Kp.ofBelow hb _,fun b hb=>?_,hI,fun b hb=>?_,hok⟩,hgr,hEI,hEK⟩
 ·exact hkN.blk h.rs.rc (hkm _ (.inl rfl))
 ·exact Nat.lt_of_lt_of_le h.rs.rl hs
 ·exact(h.rs.mp.keep hb).more hs
 ·refine⟨fun o ho=>?_,fun o ho=>?_,?_⟩
  ·rcases List.mem_append.1 ho with ho | ho
   ·exact(h.rs.ob.keep hb).at_ o ho
   ·exact(hblks o ho).2.1
  ·rcases List.mem_append.1 ho with ho | ho
   ·exact Nat.lt_of_lt_of_le (h.rs.ob.lt o ho) hs
   ·exact(hblks o ho).2.1.lt
  ·show ((σ.ρ.objs++zW8 bs (zZ7 l) sB file).map (·.blk)).Nodup
   rw[List.map_append,hmap,List.nodup_append]
   refine⟨h.rs.ob.nd,hp.imp fun {a b} hab=>by omega,fun a ha c hc e=>?_⟩
   obtain⟨o,ho,rfl⟩:=List.mem_map.1 ha
   have:=h.rs.ob.lt o ho
   have:=hn c hc
   omega
 ·exact zV5 h.al hkN fun b hb=>hkm b (.inr (.inr (.inr (.inl hb))))
 ·exact C.keep h.cl hkN fun b hb=>hkm b (.inr (.inr (.inr (.inr hb))))
 ·obtain⟨c1,c2,c3,c4⟩:=h.cm b hb
  refine⟨c1,c2,fun o ho e=>?_,c4⟩
  rcases List.mem_append.1 ho with ho | ho
  ·exact c3 o ho e
  ·have:=hn _ (hblks o ho).1
   have:=hMut0 b (.inr (.inr (.inr (.inr hb))))
   omega
 ·obtain⟨c1,c2,c3⟩:=h.am b hb
  refine⟨c1,c2,fun o ho e=>?_⟩
  rcases List.mem_append.1 ho with ho | ho
  ·exact c3 o ho e
  ·have:=hn _ (hblks o ho).1
   have:=hMut0 b (.inr (.inr (.inr (.inl hb))))
   omega
 ·exact⟨h.im.1.imp_right fun h a ha=>hI _ (h a ha),h.im.2.1.imp_right fun h a ha=>hI _ (h a ha),fun b hb=>hI _ (h.im.2.2 b hb)⟩
 ·rcases List.mem_append.1 ho with ho | ho
  ·obtain⟨l1,l2,l3,l4,l5,l6,l7⟩:=(h.lo o ho).kept hkN hiN hI
   have hsc:o.sc≠sB:=by
    have h3:=(h.lo o ho).env.1
    intro e
    cases hen:σ.en o.sc with
    | nil=>rw[hen] at h3;cases h3
    | cons x r=>
      rw[hen] at h3
      obtain⟨h4,h5,_⟩:=h3
      injection h4 with h4
      injection h4 with h4
      injection h4 with h4
      omega
   have hen:(σ.scope sB bF bL bs l file env).en o.sc=σ.en o.sc:=if_neg hsc
   exact⟨l1,l2,by rw[hen];exact l3,by rw[hen];exact l4.gr hgr,by rw[hen];exact l5,l6,l7⟩
  ·obtain⟨_,_,hd2,hsc,hfi⟩:=hblks o ho
   have hdl:o.d∈l:=(List.mem_filter.1 hd2).1
   have hdk:zD6 o.d=true:=(List.mem_filter.1 hd2).2
   have hen:(σ.scope sB bF bL bs l file env).en o.sc=scOf sB bF bL bs l ::env:=if_pos hsc
   have hOk:=hO.at_ hdl
   refine⟨?_,(zZ5 hkN hiN hI).2.1 _ hOk,by rw[hen,hsc];exact hEI,by rw[hen];exact hEK,?_,by rw[hfi];exact hf,by rw[xZ0 ho];exact yV5 _ _⟩
   ·generalize o.d=d at hOk hdk
    cases d with
    | mk k p lb a b As cs subs Ab cb body At ct tail Al cl lead tr pos=>
      have h4:k=4:=of_decide_eq_true hdk
      have:=hOk.1.2 h4
      obtain⟨x,hx⟩:=List.length_eq_one_iff.1 this
      exact⟨x,hx⟩
   ·rw[hen]
    have:=hD_le hdl
    simp only[List.length_cons]
    omega
 ·have:=h.bu
  show C.ct σ.x+(σ.ρ.all.length+wObs (σ.ρ.objs++zW8 bs (zZ7 l) sB file)+s)≤_
  have e:wObs (σ.ρ.objs++zW8 bs (zZ7 l) sB file)=wObs σ.ρ.objs+wObs (zW8 bs (zZ7 l) sB file):=by simp[wObs]
  omega
 ·have:=h.lv
  show wObs (σ.ρ.objs++zW8 bs (zZ7 l) sB file)+s≤n
  have e:wObs (σ.ρ.objs++zW8 bs (zZ7 l) sB file)=wObs σ.ρ.objs+wObs (zW8 bs (zZ7 l) sB file):=by simp[wObs]
  omega
 ·rcases hmu b hb with h4 | h4
  ·exact .inl h4
  ·exact .inr (hn b h4)
 ·rcases hb with h4 | h4 | h4 | h4
  ·exact .inl h4
  all_goals exact .inr (by omega)
theorem St.gather {c:Nat}{w1:World}{v:Value}{bs:List Nat}(h:St R C n (s+c) σ Im w)(hrow:w1.ownsRow 0 80 1 v (σ.ρ.all++bs).length ((σ.ρ.all++bs).map lptr))(hk:Kp (fun b=>σ.av.ownBlock=some b) w w1)(hv:v.ownBlock=σ.av.ownBlock∨∃ g,v.ownBlock=some g∧w.heap.size≤g)(hc:bs.length≤c) :
  St R C n s {σ with ρ:={σ.ρ with all:=σ.ρ.all++bs},av:=v} Im (w1.setCell ⟨R.r,5,none⟩ v)∧Sp (zn R C σ Im) w (zn R C {σ with ρ:={σ.ρ with all:=σ.ρ.all++bs},av:=v} Im) (w1.setCell ⟨R.r,5,none⟩ v)∧Gr w σ {σ with ρ:={σ.ρ with all:=σ.ρ.all++bs},av:=v}:=by
 have hk1:Kp (fun b=>b=R.r∨σ.av.ownBlock=some b) w w1:=hk.mono fun _ h=>.inr h
 have hk2:Kp (fun b=>b=R.r∨σ.av.ownBlock=some b) w (w1.setCell ⟨R.r,5,none⟩ v):=hk1.setCell (p:=⟨R.r,5,none⟩) (.inl rfl) _
 have hs:=hk2.size
 have hMM:∀ b,(b=R.r∨σ.av.ownBlock=some b)→(zn R C σ Im).Mut b:=fun b hb=>hb.elim .inl fun h=>.inr (.inr (.inr (.inl h)))
 have hMut0:∀ b,(zn R C σ Im).Mut b→b < w.heap.size:=fun b hb=>(h.zo.mu b hb).1
 have hvb:∀ b,v.ownBlock=some b→σ.av.ownBlock=some b∨w.heap.size≤b:=fun b hb=>by
  rcases hv with h1 | ⟨g,h1,h2⟩
  ·exact .inl (h1▸hb)
  ·rw[h1] at hb
   injection hb with hb
   exact .inr (hb▸h2)
 have hvl:∀ b,v.ownBlock=some b→b < (w1.setCell ⟨R.r,5,none⟩ v).heap.size:=fun b hb=>by
  have:=(hrow.lt b hb).2
  simpa[World.setCell] using this
 have hmu:∀ b,(zn R C {σ with ρ:={σ.ρ with all:=σ.ρ.all++bs},av:=v} Im).Mut b→(zn R C σ Im).Mut b∨(w.heap.size≤b∧v.ownBlock=some b):=fun b hb=>by
  rcases hb with h4 | h4 | h4 | h4 | h4
  ·exact .inl (.inl h4)
  ·exact .inl (.inr (.inl h4))
  ·exact .inl (.inr (.inr (.inl h4)))
  ·rcases hvb b h4 with h5 | h5
   ·exact .inl (.inr (.inr (.inr (.inl h5))))
   ·exact .inr ⟨h5,h4⟩
  ·exact .inl (.inr (.inr (.inr (.inr h4))))
 have hok:(zn R C {σ with ρ:={σ.ρ with all:=σ.ρ.all++bs},av:=v} Im).Ok (w1.setCell ⟨R.r,5,none⟩ v):=by
  refine⟨fun b hb=>?_,fun b hb=>Nat.lt_of_lt_of_le (h.zo.im b hb) hs⟩
  rcases hmu b hb with h4 | ⟨h4,h5⟩
  ·exact⟨Nat.lt_of_lt_of_le (h.zo.mu b h4).1 hs,(h.zo.mu b h4).2⟩
  ·exact⟨hvl b h5,fun hi=>by have:=h.zo.im b hi;omega⟩
 refine⟨⟨h.cellR hk2 (fun _ h=>h) rfl rfl ?_,?_,C.keep h.cl hk2 fun b hb hm=>?_,hok,fun b hb=>?_,fun b hb=>?_,h.im,fun o ho=>(h.lo o ho).kept hk2 (h.stay hMM) (fun _ h=>h),?_,?_⟩,⟨hk2.mono hMM,fun b hb=>(hmu b hb).imp_right fun h=>h.1,fun _ h=>h,fun _ h=>.inl h,hok⟩,⟨fun o ho=>⟨o,ho,rfl⟩,fun _ _=>rfl⟩⟩
 ·have h1:=hk.blk h.rs.rc fun h2=>(h.am _ h2).1 rfl
  have:=h1.set_ 5 v
  simpa using this
 ·refine zV5 hrow ((Kp.refl (· = R.r) w1).setCell (p:=⟨R.r,5,none⟩) rfl _) fun b hb e=>?_
  rcases hvb b hb with h5 | h5
  ·exact(h.am b h5).1 e
  ·have:=h.rs.rl
   omega
 ·obtain⟨c1,c2,c3,c4⟩:=h.cm b hb
  exact hm.elim c1 c4
 ·obtain⟨c1,c2,c3,c4⟩:=h.cm b hb
  refine⟨c1,c2,c3,fun e=>?_⟩
  rcases hvb b e with h5 | h5
  ·exact c4 h5
  ·have:=hMut0 b (.inr (.inr (.inr (.inr hb))))
   omega
 ·rcases hvb b hb with h5 | h5
  ·exact h.am b h5
  ·refine⟨fun e=>?_,fun hm=>?_,fun o ho e=>?_⟩
   ·have:=h.rs.rl;omega
   ·have:=h.rs.mp.uB b hm;omega
   ·have:=h.rs.ob.lt o ho;omega
 ·have:=h.bu
  show C.ct σ.x+((σ.ρ.all++bs).length+wObs σ.ρ.objs+s)≤_
  rw[List.length_append]
  omega
 ·have:=h.lv
  show wObs σ.ρ.objs+s≤n
  omega
end
theorem ValsOf.len {f:Tx→Option Value}{xs:List Value}(h:ValsOf f xs){L:List Tx}(hL:∀ s,(f s).isSome=true→s∈L):xs.length≤L.length:=by
 obtain⟨ks,h1,h2,h3,h4⟩:=h
 have e:xs.length=ks.length:=by simpa using congrArg List.length h4
 rw[e]
 exact zO9 ks L h1 fun s hs=>hL s ((h2 s (h3 s hs)).1 hs)
def Dcl {X:Type}(decls:List DA)(file:Nat)(env:List ScA)(σ σ':GS X)(env':List ScA):Prop:=
 ∃ sB bF bL bs gs av,bs.length=(zZ7 decls).length∧xZ1 σ sB bs∧env'=scOf sB bF bL bs decls ::env∧ValsOf (fL (((zZ7 decls).map lblD).zip bs)) (gs.map lptr)∧
   σ'= {σ.scope sB bF bL bs decls file env with ρ:={(σ.scope sB bF bL bs decls file env).ρ with twice:=!okD2 [] [] decls||σ.ρ.twice,all:=σ.ρ.all++gs},av:=av}
abbrev UseR (X:Type):=GS X→EA→Int × Int × Option Nat→Nat→GS X→EA→Prop
mutual
def VisE {X:Type}(R:RF)(U:UseR X):EA→List ScA→List Tx→Nat→GS X→GS X→EA→Prop
 | .mk k t m a b As cs subs Ad cd decls At ct tail pos,env,lp,file,σ,σ',e'=>
   (k=10∧U {σ with ρ:=zU5 file t (zW6 R.imps env lp file t) σ.ρ} (.mk k t m a b As cs subs Ad cd decls At ct tail pos) (zW6 R.imps env lp file t) file σ' e')∨
   (k≠10∧∃ σ1 subs' σ2 env2 decls' As' cs' Ad' cd' At' ct',zW1 R U subs 0 (if k=15 then[a,b] else[]) env lp file σ σ1 subs'∧
    (k=13∧Dcl decls file env σ1 σ2 env2∨k≠13∧σ2=σ1∧env2=env)∧zX7 R U decls env2 (if k=13 then[] else lp) file σ2 σ' decls'∧
    e'=.mk k t m a b As' cs' subs' Ad' cd' decls' At' ct' tail pos)
def zW1 {X:Type}(R:RF)(U:UseR X):List EA→Nat→List Tx→List ScA→List Tx→Nat→GS X→GS X→List EA→Prop
 | [],_,_,_,_,_,σ,σ',l'=>σ'=σ∧l'=[]
 | e ::r,i,nm,env,lp,file,σ,σ',l'=>∃ σ1 e1 r1,VisE R U e env (lp++if i=0 then[] else nm) file σ σ1 e1∧zW1 R U r (i+1) nm env lp file σ1 σ' r1∧l'=e1 ::r1
def VisD {X:Type}(R:RF)(U:UseR X):DA→List ScA→List Tx→Nat→GS X→GS X→DA→Prop
 | .mk k p l a b _ _ subs _ _ body _ _ tail _ _ lead tr pos,env,lp,file,σ,σ',d'=>
   ∃ σ1 subs' body' As' cs' Ab' cb' At' ct' Al' cl',zW1 R U subs 0 [] env lp file σ σ1 subs'∧zX7 R U body env (lp++if k=6 then[a,b] else[]) file σ1 σ' body'∧
     d'=.mk k p l a b As' cs' subs' Ab' cb' body' At' ct' tail Al' cl' lead tr pos
def zX7 {X:Type}(R:RF)(U:UseR X):List DA→List ScA→List Tx→Nat→GS X→GS X→List DA→Prop
 | [],_,_,_,σ,σ',l'=>σ'=σ∧l'=[]
 | d ::r,env,lp,file,σ,σ',l'=>∃ σ1 d1 r1,VisD R U d env lp file σ σ1 d1∧zX7 R U r env lp file σ1 σ' r1∧l'=d1 ::r1
end
section
variable {X:Type}{R:RF}{C:Clo X}{n s:Nat}{σ0 σ σ':GS X}{Im0 Im Im':Nat→Prop}{w wx wy:World}
theorem Mine.up {z:Zn}{b:Nat}(h:Mine z wx b)(hs:wx.heap.size≤wy.heap.size):Mine z wy b:=⟨Nat.lt_of_lt_of_le h.1 hs,h.2⟩
structure Fr (R:RF)(C:Clo X)(n s:Nat)(σ0:GS X)(Im0:Nat→Prop)(w:World)(σ:GS X)(Im:Nat→Prop)(wx:World):Prop where
 st:St R C n s σ Im wx
 sp:Sp (zn R C σ0 Im0) w (zn R C σ Im) wx
 gr:Gr w σ0 σ
theorem Fr.start (h:St R C n s σ Im w):Fr R C n s σ Im w σ Im w:=⟨h,Sp.refl h.zo,Gr.refl _ _⟩
theorem Fr.write (h:Fr R C n s σ0 Im0 w σ Im wx){N:Nat→Prop}(hk:Kp N wx wy)(hN:∀ b,N b→w.heap.size≤b∧¬ (zn R C σ Im).Mut b∧¬ Im b):Fr R C n s σ0 Im0 w σ Im wy:=
 ⟨h.st.kept hk fun b hb=>(hN b hb).2,h.sp.own_ hk fun b hb=>(hN b hb).1,h.gr⟩
theorem Fr.below (h:Fr R C n s σ0 Im0 w σ Im wx)(hb:Below wx.heap.size wx wy):Fr R C n s σ0 Im0 w σ Im wy:=
 h.write (N:=fun _=>False) (Kp.ofBelow hb _) (fun _ h=>h.elim)
theorem Fr.cell (h:Fr R C n s σ0 Im0 w σ Im wx){g:Nat}(hg:w.heap.size≤g)(hm:Mine (zn R C σ Im) wx g)(i:Nat)(v:Value):Fr R C n s σ0 Im0 w σ Im (wx.setCell ⟨g,i,none⟩ v):=
 h.write ((Kp.refl (· = g) wx).setCell (p:=⟨g,i,none⟩) rfl v) fun b hb=>by subst hb;exact⟨hg,hm.2⟩
theorem Fr.step {s':Nat}(h:Fr R C n s σ0 Im0 w σ Im wx)(h1:St R C n s' σ' Im' wy)(h2:Sp (zn R C σ Im) wx (zn R C σ' Im') wy)(h3:Gr wx σ σ'):Fr R C n s' σ0 Im0 w σ' Im' wy:=
 ⟨h1,h.sp.trans h2,h.gr.trans h3 h.sp.kp.size⟩
theorem Fr.freeze (h:Fr R C n s σ0 Im0 w σ Im wx){F:Nat→Prop}(hF:∀ b,F b→Mine (zn R C σ Im) wx b∧w.heap.size≤b):Fr R C n s σ0 Im0 w σ (fun b=>Im b∨F b) wx:=
 ⟨h.st.freeze fun b hb=>⟨(hF b hb).1,trivial⟩,h.sp.freeze h.st hF,h.gr⟩
theorem Fr.new_ (h:Fr R C n s σ0 Im0 w σ Im wx){b:Nat}(hb:wx.heap.size≤b)(hs:b < wy.heap.size):Mine (zn R C σ Im) wy b∧w.heap.size≤b:=⟨h.st.zo.new_ hb hs,Nat.le_trans h.sp.kp.size hb⟩
theorem Fr.less {s':Nat}(h:Fr R C n s σ0 Im0 w σ Im wx)(hs:s'≤s):Fr R C n s' σ0 Im0 w σ Im wx:=⟨h.st.less hs (Nat.le_refl _),h.sp,h.gr⟩
theorem Sp.imN (_h:Sp (zn R C σ Im) wx (zn R C σ' Im') wy)(hz:(zn R C σ Im).Ok wx):∀ b,Im b→¬ (zn R C σ Im).Mut b:=fun b hb hm=>(hz.mu b hm).2 hb
theorem zO1 {α:Type}{k base e m c:Nat}{A:Option Addr}{enc:α→List Value}{l:List α}(hk:∀ x,(enc x).length=k)(h:Acc wx base e k (.slice A m c) m (l.flatMap enc))(hk0:0 < k):m=l.length∧Sl wx wx.heap.size k enc A l:=by
 have hl:(l.flatMap enc).length=l.length*k:=by
  clear h
  induction l with
  | nil=>simp
  | cons x l ih=>rw[List.flatMap_cons,List.length_append,ih,hk,List.length_cons,Nat.succ_mul,Nat.add_comm]
 have hm:m=l.length:=by
  have:=h.length
  rw[hl] at this
  exact(Nat.eq_of_mul_eq_mul_right hk0 this).symm
 refine⟨hm,?_⟩
 rcases h.cells with h0 | ⟨g,off,c',hv,hlt,hc⟩
 ·exact .inl (List.eq_nil_of_length_eq_zero (by omega))
 ·injection hv with h1 h2 h3
  subst h1
  refine .inr ⟨g,off,rfl,hlt,fun i hi j v hv=>?_⟩
  have:=hc (i*k+j) v ?_
  ·rw[←Nat.add_assoc] at this
   exact this
  ·have hj:j < k:=by rw[←hk l[i]];exact(List.getElem?_eq_some_iff.1 hv).1
   exact(zH7 hk l i hi j hj).trans hv
end
theorem yY3 (s:Tx):∀ env,(zV6 s env).1=0∨(zV6 s env).1=1∨(zV6 s env).1=2
 | []=>.inl rfl
 | x ::r=>by
   rw[zV6]
   split
   ·exact .inr (.inr rfl)
   ·split
    ·exact .inr (.inl rfl)
    ·exact yY3 s r
theorem yE2 (imps:List (List Tx))(env:List ScA)(lp:List Tx)(file:Nat)(s:Tx):0≤(zW6 imps env lp file s).1∧(zW6 imps env lp file s).1 < 5:=by
 have h:=yY3 s env
 unfold zW6
 split
 ·exact⟨by decide,by decide⟩
 ·split
  ·split <;> exact⟨by decide,by decide⟩
  ·omega
def RetE {X:Type}(R:RF)(C:Clo X)(n s:Nat)(σ:GS X)(Im:Nat→Prop)(w:World)(V:GS X→EA→Prop)(r:Ending)(w':World):Prop:=
 ∃ σ' Im' e',r=.returned (.agg (encE e').toArray)∧V σ' e'∧St R C n s σ' Im' w'∧Sp (zn R C σ Im) w (zn R C σ' Im') w'∧Gr w σ σ'∧OkI Im' w' e'
def xZ2 {X:Type}(R:RF)(C:Clo X)(n s:Nat)(σ:GS X)(Im:Nat→Prop)(w:World)(V:GS X→List DA→Prop)(r:Ending)(w':World):Prop:=
 ∃ σ' Im' l' A' c',r=.returned (.slice A' l'.length c')∧V σ' l'∧St R C n s σ' Im' w'∧Sp (zn R C σ Im) w (zn R C σ' Im') w'∧Gr w σ σ'∧SlI Im' w' 11 encD A' l'∧OkIds Im' w' l'
def yV7 {X:Type}(R:RF)(C:Clo X)(n:Nat)(U:UseR X)(g:Nat)(lb:Array Value):Prop:=
 ∀ (σ:GS X) (Im:Nat→Prop) (w:World) (s:Nat) (k:Int) (t:Tx) (m:Int) (a b:Tx) (As:Option Addr) (cs:Nat) (subs:List EA) (Ad:Option Addr) (cd:Nat) (decls:List DA) (At:Option Addr) (ct:Nat) (tail:List Tx) (pos:Int) (x:Int × Int × Option Nat) (file:Nat),
   St R C n (s+1) σ Im w→OkI Im w (.mk k t m a b As cs subs Ad cd decls At ct tail pos)→(∀ c,x.2.2=some c→∃ o∈σ.ρ.objs,o.blk=c)→file < R.uB.length→0≤x.1∧x.1 < 5→
   Calls Tryz.prog g (#[.agg (encE (.mk k t m a b As cs subs Ad cd decls At ct tail pos)).toArray,.agg #[.int .i64 (file:Nat),.int .i64 pos,.string ⟨t.toArray⟩,.int .i64 x.1,.int .i64 x.2.1],yV4 x.2.2]++lb) w
    (RetE R C n s σ Im w fun σ' e'=>U σ (.mk k t m a b As cs subs Ad cd decls At ct tail pos) x file σ' e')
def zP4 {X:Type}(R:RF)(C:Clo X)(n:Nat)(U:UseR X)(e:EA):Prop:=
 ∀ (σ:GS X) (Im:Nat→Prop) (w:World) (s:Nat) (env:List ScA) (v:Value) (lp:List Tx) (A:Option Addr) (c file:Nat),
   St R C n (s+wE e) σ Im w→OkI Im w e→EnvI Im w v env→EnvK σ.ρ.objs env→env≠[]→SlI Im w 1 encS A lp→file < R.uB.length→env.length+hE e≤1000→lp.length+2*hE e≤1000000→
   Calls Tryz.prog 93 #[.pointer (some ⟨R.r,0,none⟩),.agg (encE e).toArray,v,.slice A lp.length c,.int .i64 (file:Nat)] w (RetE R C n s σ Im w (VisE R U e env lp file σ))
def zR8 {X:Type}(R:RF)(C:Clo X)(n:Nat)(U:UseR X)(l:List DA):Prop:=
 ∀ (σ:GS X) (Im:Nat→Prop) (w:World) (s:Nat) (env:List ScA) (v:Value) (lp:List Tx) (Al:Option Addr) (cl:Nat) (A:Option Addr) (c file:Nat),
   St R C n (s+vDs l) σ Im w→SlI Im w 11 encD Al l→OkIds Im w l→EnvI Im w v env→EnvK σ.ρ.objs env→env≠[]→SlI Im w 1 encS A lp→file < R.uB.length→env.length+hDs l≤1000→lp.length+2*hDs l≤1000000→
   Calls Tryz.prog 76 #[.pointer (some ⟨R.r,0,none⟩),.slice Al l.length cl,v,.slice A lp.length c,.int .i64 (file:Nat)] w (xZ2 R C n s σ Im w (zX7 R U l env lp file σ))
theorem zG0 {X:Type}{R:RF}{U:UseR X}{nm lp:List Tx}{env:List ScA}{file:Nat}:∀ {l:List EA}{j:Nat}{σ σ1 σ2:GS X}{l':List EA}{e e':EA},zW1 R U l j nm env lp file σ σ1 l'→VisE R U e env (lp++if j+l.length=0 then[] else nm) file σ1 σ2 e'→zW1 R U (l++ [e]) j nm env lp file σ σ2 (l'++ [e'])
 | [],j,σ,σ1,σ2,l',e,e',h1,h2=>by
   rw[zW1] at h1
   obtain⟨rfl,rfl⟩:=h1
   show zW1 R U (e ::[]) j nm env lp file σ1 σ2 [e']
   rw[zW1]
   exact⟨σ2,e',[],by simpa using h2,by rw[zW1];exact⟨rfl,rfl⟩,rfl⟩
 | x ::l,j,σ,σ1,σ2,l',e,e',h1,h2=>by
   rw[zW1] at h1
   obtain⟨σ3,e1,r1,h3,h4,rfl⟩:=h1
   show zW1 R U (x ::(l++ [e])) j nm env lp file σ σ2 (e1 ::r1++ [e'])
   rw[zW1]
   refine⟨σ3,e1,r1++ [e'],h3,zG0 h4 ?_,rfl⟩
   have:(j+1+l.length=0)=(j+(x ::l).length=0):=by simp
   simp only[this]
   exact h2
theorem yY4 {X:Type}{R:RF}{U:UseR X}{lp:List Tx}{env:List ScA}{file:Nat}:∀ {l:List DA}{σ σ1 σ2:GS X}{l':List DA}{d d':DA},zX7 R U l env lp file σ σ1 l'→VisD R U d env lp file σ1 σ2 d'→zX7 R U (l++ [d]) env lp file σ σ2 (l'++ [d'])
 | [],σ,σ1,σ2,l',d,d',h1,h2=>by
   rw[zX7] at h1
   obtain⟨rfl,rfl⟩:=h1
   show zX7 R U (d ::[]) env lp file σ1 σ2 [d']
   rw[zX7]
   exact⟨σ2,d',[],h2,by rw[zX7];exact⟨rfl,rfl⟩,rfl⟩
 | x ::l,σ,σ1,σ2,l',d,d',h1,h2=>by
   rw[zX7] at h1
   obtain⟨σ3,e1,r1,h3,h4,rfl⟩:=h1
   show zX7 R U (x ::(l++ [d])) env lp file σ σ2 (e1 ::r1++ [d'])
   rw[zX7]
   exact⟨σ3,e1,r1++ [d'],h3,yY4 h4 h2,rfl⟩
end Go.Proofs.YtdgehhgjgifikaaGreatDoor
