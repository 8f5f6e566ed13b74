/- What the claim needs of:YQ YR Fph. -/
import Derived.Test.YtdgehhgjgifikaaGreatDoorK13
import Derived.Test.YtdgehhgjgifikaaGreatDoorK4
namespace Go.Proofs.YtdgehhgjgifikaaGreatDoor
open Go.RowKit
def SameOb (l l':List Ob):Prop:=∃ g:Ob→Ob,l'=l.map g∧∀ o,(g o).blk=o.blk∧(g o).d=o.d∧(g o).sc=o.sc∧(g o).file=o.file∧wOb (g o)=wOb o∧(g o).ex=o.ex
theorem SameOb.refl (l:List Ob):SameOb l l:=⟨id,by simp,fun _=>⟨rfl,rfl,rfl,rfl,rfl,rfl⟩⟩
theorem zB0 (file:Nat)(t:Tx)(x:Int × Int × Option Nat)(ρ:RS):SameOb ρ.objs (zV3 file t x ρ).objs∧(zV3 file t x ρ).all=ρ.all:=by
 unfold zV3;split
 ·rename_i b _;refine⟨⟨zL2 b,rfl,fun o=>?_⟩,rfl⟩;unfold zL2;split <;> exact⟨rfl,rfl,rfl,rfl,rfl,rfl⟩
 ·split <;> exact⟨SameOb.refl _,rfl⟩
theorem SameOb.blk {l l':List Ob}(h:SameOb l l')(b:Nat):(∃ o∈l',o.blk=b)↔∃ o∈l,o.blk=b:=by
 obtain⟨g,rfl,hg⟩:=h;constructor
 ·exact xN
 ·exact xV
theorem SameOb.wt {l l':List Ob}(h:SameOb l l'):wObs l'=wObs l:=by
 obtain⟨g,rfl,hg⟩:=h;unfold wObs;rw[List.map_map];congr 1;exact List.map_congr_left fun o _=>(hg o).2.2.2.2.1
section
variable {X:Type}{R:RF}{C:Clo X}{n s:Nat}{σ:GS X}{Im:Nat→Prop}{w w':World}
theorem St.stay (h:St R C n s σ Im w){M:Nat→Prop}(hM:∀ b,M b→(zn R C σ Im).Mut b):∀ b,Im b→¬ M b:=fun b hb hm=>(h.zo.mu b (hM b hm)).2 hb
theorem St.turn (h:St R C n s σ Im w){ρ':RS}(ha:ρ'.all=σ.ρ.all)(hob:SameOb σ.ρ.objs ρ'.objs){M:Nat→Prop}(hk:Kp M w w')(hM:∀ b,M b→b=R.r∨b∈R.uB∨∃ o∈σ.ρ.objs,o.blk=b)(hrs:RsAt R ρ' σ.av w'.heap.size w') :
  St R C n s {σ with ρ:=ρ'} Im w'∧Sp (zn R C σ Im) w (zn R C {σ with ρ:=ρ'} Im) w'∧Gr w σ {σ with ρ:=ρ'}:=by
 have hMM:∀ b,M b→(zn R C σ Im).Mut b:=fun b hb=>by
  rcases hM b hb with h1 | h1 | h1
  ·exact .inl h1
  ·exact .inr (.inl h1)
  ·exact .inr (.inr (.inl h1))
 have hMu:∀ b,(zn R C {σ with ρ:=ρ'} Im).Mut b↔(zn R C σ Im).Mut b:=fun b=>by
  show (b=R.r∨b∈R.uB∨(∃ o∈ρ'.objs,o.blk=b)∨σ.av.ownBlock=some b∨C.M σ.x b)↔(b=R.r∨b∈R.uB∨(∃ o∈σ.ρ.objs,o.blk=b)∨σ.av.ownBlock=some b∨C.M σ.x b);rw[hob.blk b]
 have hiN:=h.stay hMM;have hs:=hk.size;have hoB:∀ {b:Nat},(∀ o∈σ.ρ.objs,o.blk≠b)→∀ o∈ρ'.objs,o.blk≠b:=fun {b} hn o ho e=>by
  obtain⟨y,hy,e2⟩:=(hob.blk b).1 ⟨o,ho,e⟩;exact hn y hy e2
 have hok:(zn R C {σ with ρ:=ρ'} Im).Ok w':=⟨fun b hb=>⟨Nat.lt_of_lt_of_le (h.zo.mu b ((hMu b).1 hb)).1 hs,(h.zo.mu b ((hMu b).1 hb)).2⟩,fun b hb=>Nat.lt_of_lt_of_le (h.zo.im b hb) hs⟩;have hgr:Gr w σ {σ with ρ:=ρ'}:=⟨fun o ho=>(hob.blk _).2 ⟨o,ho,rfl⟩,fun _ _=>rfl⟩;refine⟨⟨hrs,?_,C.keep h.cl hk fun b hb hm=>?_,hok,fun b hb=>?_,fun b hb=>?_,h.im,fun o ho=>?_,?_,?_⟩,⟨hk.mono hMM,fun b hb=>.inl ((hMu b).1 hb),fun _ h=>h,fun _ h=>.inl h,hok⟩,hgr⟩
 ·exact vV
 ·exact xD
 ·obtain⟨h1,h2,h3,h4⟩:=h.cm b hb;exact⟨h1,h2,hoB h3,h4⟩
 ·obtain⟨h1,h2,h3⟩:=h.am b hb;exact⟨h1,h2,hoB h3⟩
 ·obtain⟨g,hg1,hg2⟩:=hob;have ho':o∈σ.ρ.objs.map g:=hg1▸ho;obtain⟨y,hy,rfl⟩:=List.mem_map.1 ho';obtain⟨g1,g2,g3,g4,_,g6⟩:=hg2 y;obtain⟨l1,l2,l3,l4,l5,l6,l7⟩:=(h.lo y hy).kept hk hiN (fun _ h=>h);exact⟨by rw[g2];exact l1,by rw[g2];exact l2,by rw[g3];exact l3,by rw[g3];exact EnvK.gr l4 hgr,by rw[g2,g3];exact l5,by rw[g4];exact l6,by rw[g6];exact l7⟩
 ·have:=h.bu;show C.ct σ.x+(ρ'.all.length+wObs ρ'.objs+s)≤_;rw[ha,hob.wt];exact this
 ·have:=h.lv;show wObs ρ'.objs+s≤n;rw[hob.wt];exact this
theorem St.find (h:St R C n s σ Im w)(file:Nat)(t:Tx)(x:Int × Int × Option Nat)(hk:Kp (MFind R σ.ρ.objs) w w')(hrs:RsAt R (zV3 file t x σ.ρ) σ.av w.heap.size w') :
  St R C n s {σ with ρ:=zV3 file t x σ.ρ} Im w'∧Sp (zn R C σ Im) w (zn R C {σ with ρ:=zV3 file t x σ.ρ} Im) w'∧Gr w σ {σ with ρ:=zV3 file t x σ.ρ}:=
 h.turn (zB0 file t x σ.ρ).2 (zB0 file t x σ.ρ).1 hk (fun _ hb=>.inr hb) (hrs.more hk.size)
theorem xY9 {g:Nat}{ty:TypeId}{cs:Array Value}{bs:List Nat}{l:List (List Tx)}{q:Nat→Nat}(hb:Blk w g ty cs)(hm:∀ (i:Nat)(h:i < bs.length),OMap KS w bs[i] (q i) (fF (l.getD i []))):∀ b∈bs,¬ b=g:=fun b hbm e=>by
 obtain⟨i,hi,rfl⟩:=List.mem_iff_getElem.1 hbm;exact zY4 hb (hm i hi) e.symm
theorem St.cellR (h:St R C n s σ Im w){M:Nat→Prop}(hk:Kp M w w')(hM:∀ b,M b→b=R.r∨σ.av.ownBlock=some b){ρ':RS}{av':Value}(hu:ρ'.usedI=σ.ρ.usedI)(ho:ρ'.objs=σ.ρ.objs)
  (hrc:Blk w' R.r 86 #[.string ⟨R.path.toArray⟩,.slice R.FA R.nF R.cF,.pointer (some ⟨R.root,0,none⟩),.slice R.Ai R.iB.length R.ci,.slice R.Au R.uB.length R.cu,av',.bool ρ'.twice,.bool ρ'.cyc,R.use]):RsAt R ρ' av' w'.heap.size w':=by
 have hiN:∀ b,Im b→¬ M b:=h.stay fun b hb=>(hM b hb).elim .inl fun h=>.inr (.inr (.inr (.inl h)));have hs:=hk.size;refine⟨hrc,Nat.lt_of_lt_of_le h.rs.rl hs,?_,?_⟩
 ·rw[hu];exact(h.rs.mp.keptA hk (imN h.im.1 hiN) (imN h.im.2.1 hiN) (fun b hb=>hiN b (h.im.2.2 b hb)) (fun b hb hm=>(hM b hm).elim (xY9 h.rs.rc h.rs.mp.mu b hb) fun h2=>(h.am b h2).2.1 hb)).more hs
 ·rw[ho];exact(h.rs.ob.kept hk fun o ho hm=>(hM _ hm).elim (zQ1 (h.rs.ob.at_ o ho) h.rs.rc (by decide)) fun h2=>(h.am _ h2).2.2 o ho rfl).more hs
theorem St.flag (h:St R C n s σ Im w)(b:Bool):St R C n s {σ with ρ:={σ.ρ with twice:=b}} Im (w.setCell ⟨R.r,6,none⟩ (.bool b))∧Sp (zn R C σ Im) w (zn R C {σ with ρ:={σ.ρ with twice:=b}} Im) (w.setCell ⟨R.r,6,none⟩ (.bool b))∧Gr w σ {σ with ρ:={σ.ρ with twice:=b}}:=by
 have hk:Kp (· = R.r) w (w.setCell ⟨R.r,6,none⟩ (.bool b)):=(Kp.refl (· = R.r) w).setCell (p:=⟨R.r,6,none⟩) rfl _;refine h.turn (ρ':={σ.ρ with twice:=b}) rfl (SameOb.refl _) hk (fun _ hb=>.inl hb) (h.cellR hk (fun _ h=>.inl h) rfl rfl ?_);have:=h.rs.rc.set_ 6 (.bool b);simpa using this
def zU5 (bs:List Nat)(ds:List DA)(sc file:Nat):List Ob:=(bs.zip ds).map fun p=>zC7 p.1 sc file zK5 p.2
theorem xX0 {bs:List Nat}{ds:List DA}{sc file:Nat}{o:Ob}(h:o∈zU5 bs ds sc file):o.ex=zK5:=by
 obtain⟨p,_,rfl⟩:=List.mem_map.1 h;rfl
def scOf (sB bF bL:Nat)(bs:List Nat)(l:List DA):ScA:=⟨sB,bF,bL,zZ9 l,((zZ7 l).map lblD).zip bs⟩
def GS.scope (σ:GS X)(sB bF bL:Nat)(bs:List Nat)(l:List DA)(file:Nat)(env:List ScA):GS X:=
 {σ with ρ:={σ.ρ with objs:=σ.ρ.objs++zU5 bs (zZ7 l) sB file},en:=fun i=>if i=sB then scOf sB bF bL bs l ::env else σ.en i}
theorem zB1 (b sc file:Nat)(d:DA):obV (zC7 b sc file zK5 d)=letV d sc file:=by
 cases d;rfl
theorem yO9:∀ (bs:List Nat)(ds:List DA)(sc file:Nat),bs.length=ds.length→wObs (zU5 bs ds sc file)+ds.length=(ds.map fun d=>2+wEs (zU3 d)).sum
 | [],[],_,_,_=>rfl
 | b ::bs,d ::ds,sc,file,h=>by
   have ih:=yO9 bs ds sc file (by simpa using h);unfold zU5 wObs at *;simp only[List.zip_cons_cons,List.map_cons,List.sum_cons,List.length_cons] at *;have:wOb (zC7 b sc file zK5 d)=1+wEs (zU3 d):=rfl;rw[this];omega
theorem yT8:∀ l:List DA,((zZ7 l).map fun d=>2+wEs (zU3 d)).sum=bDs l
 | []=>rfl
 | d ::l=>by
   have ih:=yT8 l;have e1:zZ7 (d ::l)=if yY1 d=true then d ::zZ7 l else zZ7 l:=List.filter_cons ..;have e2:bD d=if yY1 d=true then 2+wEs (zU3 d) else 0:=by
    cases d with
    | mk k p lb a b As cs subs Ab cb body At ct tail Al cl lead tr pos=>
      show (if k=4 then _ else _)=if decide (k=4)=true then _ else _;by_cases hk:k=4 <;> simp[hk,zU3]
   rw[e1,bDs,e2];split
   ·rw[List.map_cons,List.sum_cons,ih]
   ·rw[ih,Nat.zero_add]
theorem hD_le:∀ {l:List DA}{d:DA},d∈l→hD d≤hDs l
 | x ::l,d,h=>by
   unfold hDs;rcases List.mem_cons.1 h with rfl | h
   ·omega
   ·have:=hD_le h;omega
def xX1 {X:Type}(σ:GS X)(sB:Nat)(bs:List Nat):Prop:=(∀ o∈σ.ρ.objs,o.sc≠sB∧o.blk∉bs)∧bs.Nodup
theorem St.freshD {sB:Nat}{bs:List Nat}(h:St R C n s σ Im w)(h1:w.heap.size≤sB)(hn:∀ b∈bs,w.heap.size≤b)(hp:bs.Pairwise (· < ·)):xX1 σ sB bs:=by
 refine⟨fun o ho=>⟨fun e=>?_,fun hb=>?_⟩,hp.imp fun {a b} hab=>by omega⟩
 ·have h3:=(h.lo o ho).env.1;cases hen:σ.en o.sc with
  | nil=>rw[hen] at h3;cases h3
  | cons x r=>
    rw[hen] at h3;obtain⟨h4,h5,_⟩:=h3;injection h4 with h4
    injection h4 with h4
    injection h4 with h4
    omega
 ·have:=h.rs.ob.lt o ho;have:=hn _ hb;omega
theorem St.scope {q:Nat}{w2:World}{sB bF bL file:Nat}{bs:List Nat}{l:List DA}{v:Value}{env:List ScA}(h:St R C n (s+q) σ Im w)(hb:Below w.heap.size w w2)(h1:w.heap.size≤sB)(h2:w.heap.size≤bF)(h3:w.heap.size≤bL)
  (hS:Blk w2 sB 122 #[.map (some bF),.map (some bL),v,.int .i64 (env.length:Nat)])(hF:OMap KS w2 bF (zZ9 l).length (fF (zZ9 l)))(hL:OMap KS w2 bL bs.length (fL (((zZ7 l).map lblD).zip bs)))(hne:bF≠bL)
  (hB:∀ p∈bs.zip (zZ7 l),Blk w2 p.1 102 (letV p.2 sB file))(hn:∀ b∈bs,w.heap.size≤b)(hp:bs.Pairwise (· < ·))(hlen:bs.length=(zZ7 l).length)(hE:EnvI Im w v env)(hK:EnvK σ.ρ.objs env)(hO:OkIds Im w l)(hf:file < R.uB.length)(hd:env.length+1+hDs l≤1000)
  (hq:wObs (zU5 bs (zZ7 l) sB file)≤q) :
  St R C n s (σ.scope sB bF bL bs l file env) (fun b=>Im b∨b=sB∨b=bF∨b=bL) w2∧Sp (zn R C σ Im) w (zn R C (σ.scope sB bF bL bs l file env) fun b=>Im b∨b=sB∨b=bF∨b=bL) w2∧Gr w σ (σ.scope sB bF bL bs l file env)∧
   EnvI (fun b=>Im b∨b=sB∨b=bF∨b=bL) w2 (.pointer (some ⟨sB,0,none⟩)) (scOf sB bF bL bs l ::env)∧EnvK (σ.scope sB bF bL bs l file env).ρ.objs (scOf sB bF bL bs l ::env):=by
 have hs:=hb.size;have hI:∀ b,Im b→Im b∨b=sB∨b=bF∨b=bL:=fun b hb=>.inl hb;have hkN:Kp (fun b=>w.heap.size≤b) w w2:=Kp.low hb;have hiN:∀ b,Im b→¬ w.heap.size≤b:=fun b hb=>by have:=h.zo.im b hb;omega
 have hblks:∀ o∈zU5 bs (zZ7 l) sB file,o.blk∈bs∧Blk w2 o.blk 102 (obV o)∧o.d∈zZ7 l∧o.sc=sB∧o.file=file:=fun o ho=>by
  obtain⟨p,hp,rfl⟩:=List.mem_map.1 ho;exact⟨(List.of_mem_zip hp).1,by rw[zB1];exact hB p hp,(List.of_mem_zip hp).2,rfl,rfl⟩
 have hbmem:∀ b∈bs,∃ o∈zU5 bs (zZ7 l) sB file,o.blk=b:=fun b hb=>by
  obtain⟨i,hi,rfl⟩:=List.mem_iff_getElem.1 hb;refine⟨zC7 bs[i] sB file zK5 ((zZ7 l)[i]' qG),List.mem_map.2 ⟨(bs[i],(zZ7 l)[i]' qG),?_,rfl⟩,rfl⟩;rw[List.mem_iff_getElem];exact⟨i,by simp;omega,by simp⟩
 have hmap:(zU5 bs (zZ7 l) sB file).map (·.blk)=bs:=by
  unfold zU5;rw[List.map_map];have:((fun x:Ob=>x.blk) ∘ fun p:Nat × DA=>zC7 p.1 sB file zK5 p.2)=Prod.fst:=rfl;rw[this,List.map_fst_zip qG]
 have hnlt:∀ b∈bs,b < w2.heap.size:=fun b hb=>by
  obtain⟨o,ho,rfl⟩:=hbmem b hb;exact(hblks o ho).2.1.lt
 have hgr:Gr w σ (σ.scope sB bF bL bs l file env):=⟨fun o ho=>⟨o,List.mem_append_left _ ho,rfl⟩,fun b hb=>by
  show (if b=sB then _ else σ.en b)=σ.en b;rw[if_neg qG]⟩
 have hEK:EnvK (σ.scope sB bF bL bs l file env).ρ.objs (scOf sB bF bL bs l ::env):=fun x hx p hp=>by
  rcases List.mem_cons.1 hx with rfl | hx
  ·obtain⟨o,ho,e⟩:=hbmem p.2 (List.of_mem_zip hp).2;exact⟨o,List.mem_append_right _ ho,e⟩
  ·exact(hK.gr hgr) x hx p hp
 have hEI:EnvI (fun b=>Im b∨b=sB∨b=bF∨b=bL) w2 (.pointer (some ⟨sB,0,none⟩)) (scOf sB bF bL bs l ::env):=by
  have hE2:=hE.kept hkN hiN hI;refine⟨⟨rfl,hS.lt,hF.lt,hL.lt,hne,hF,?_,v,hS,hE2.1⟩,fun x hx=>?_⟩
  ·show OMap KS w2 bL (((zZ7 l).map lblD).zip bs).length _;have:(((zZ7 l).map lblD).zip bs).length=bs.length:=by simp[hlen]
   rw[this];exact hL
  ·rcases List.mem_cons.1 hx with rfl | hx
   ·exact⟨.inr (.inl rfl),.inr (.inr (.inl rfl)),.inr (.inr (.inr rfl))⟩
   ·exact hE2.2 x hx
 have hmu:∀ b,(zn R C (σ.scope sB bF bL bs l file env) fun b=>Im b∨b=sB∨b=bF∨b=bL).Mut b→(zn R C σ Im).Mut b∨b∈bs:=fun b hb=>by
  rcases hb with h4 | h4 | ⟨o,ho,h4⟩ | h4 | h4
  ·exact .inl (.inl h4)
  ·exact .inl (.inr (.inl h4))
  ·rcases List.mem_append.1 ho with ho | ho
   ·exact .inl (.inr (.inr (.inl ⟨o,ho,h4⟩)))
   ·exact .inr (h4▸(hblks o ho).1)
  ·exact .inl (.inr (.inr (.inr (.inl h4))))
  ·exact .inl (.inr (.inr (.inr (.inr h4))))
 have hok:(zn R C (σ.scope sB bF bL bs l file env) fun b=>Im b∨b=sB∨b=bF∨b=bL).Ok w2:=by
  refine⟨fun b hb=>?_,fun b hb=>?_⟩
  ·rcases hmu b hb with h4 | h4
   ·have h5:=h.zo.mu b h4;refine⟨by omega,?_⟩;rintro(h6 | h6 | h6 | h6)
    ·exact h5.2 h6
    all_goals omega
   ·refine⟨hnlt b h4,?_⟩;obtain⟨o,ho,rfl⟩:=hbmem b h4;have hbl:=(hblks o ho).2.1;rintro(h6 | h6 | h6 | h6)
    ·have:=h.zo.im _ h6;have:=hn _ h4;omega
    ·exact zQ1 hbl hS (by decide) h6
    ·exact zY4 hbl hF h6
    ·exact zY4 hbl hL h6
  ·rcases hb with h6 | h6 | h6 | h6
   ·have:=h.zo.im _ h6;omega
   ·rw[h6];exact hS.lt
   ·rw[h6];exact hF.lt
   ·rw[h6];exact hL.lt
 have hMut0:∀ b,(zn R C σ Im).Mut b→b < w.heap.size:=fun b hb=>(h.zo.mu b hb).1;have hkm:∀ b,(zn R C σ Im).Mut b→¬ w.heap.size≤b:=fun b hb=>by have:=hMut0 b hb;omega
 refine⟨⟨⟨?_,?_,?_,?_⟩,?_,?_,hok,fun b hb=>?_,fun b hb=>?_,?_,fun o ho=>?_,?_,?_⟩,⟨Kp.ofBelow hb _,fun b hb=>?_,hI,fun b hb=>?_,hok⟩,hgr,hEI,hEK⟩
 ·exact hkN.blk h.rs.rc (hkm _ (.inl rfl))
 ·exact Nat.lt_of_lt_of_le h.rs.rl hs
 ·exact(h.rs.mp.keep hb).more hs
 ·refine⟨fun o ho=>?_,fun o ho=>?_,?_⟩
  ·rcases List.mem_append.1 ho with ho | ho
   ·exact(h.rs.ob.keep hb).at_ o ho
   ·exact(hblks o ho).2.1
  ·rcases List.mem_append.1 ho with ho | ho
   ·exact Nat.lt_of_lt_of_le (h.rs.ob.lt o ho) hs
   ·exact(hblks o ho).2.1.lt
  ·show ((σ.ρ.objs++zU5 bs (zZ7 l) sB file).map (·.blk)).Nodup;rw[List.map_append,hmap,List.nodup_append];refine⟨h.rs.ob.nd,hp.imp fun {a b} hab=>by omega,fun a ha c hc e=>?_⟩;obtain⟨o,ho,rfl⟩:=List.mem_map.1 ha;have:=h.rs.ob.lt o ho;have:=hn c hc;omega
 ·exact zU4 h.al hkN fun b hb=>hkm b (.inr (.inr (.inr (.inl hb))))
 ·exact C.keep h.cl hkN fun b hb=>hkm b (.inr (.inr (.inr (.inr hb))))
 ·obtain⟨c1,c2,c3,c4⟩:=h.cm b hb;refine⟨c1,c2,fun o ho e=>?_,c4⟩;rcases List.mem_append.1 ho with ho | ho
  ·exact c3 o ho e
  ·have:=hn _ (hblks o ho).1;have:=hMut0 b (.inr (.inr (.inr (.inr hb))));omega
 ·obtain⟨c1,c2,c3⟩:=h.am b hb;refine⟨c1,c2,fun o ho e=>?_⟩;rcases List.mem_append.1 ho with ho | ho
  ·exact c3 o ho e
  ·have:=hn _ (hblks o ho).1;have:=hMut0 b (.inr (.inr (.inr (.inl hb))));omega
 ·exact⟨h.im.1.imp_right fun h a ha=>hI _ (h a ha),h.im.2.1.imp_right fun h a ha=>hI _ (h a ha),fun b hb=>hI _ (h.im.2.2 b hb)⟩
 ·rcases List.mem_append.1 ho with ho | ho
  ·obtain⟨l1,l2,l3,l4,l5,l6,l7⟩:=(h.lo o ho).kept hkN hiN hI;have hsc:o.sc≠sB:=by
    have h3:=(h.lo o ho).env.1;intro e;cases hen:σ.en o.sc with
    | nil=>rw[hen] at h3;cases h3
    | cons x r=>
      rw[hen] at h3;obtain⟨h4,h5,_⟩:=h3;injection h4 with h4
      injection h4 with h4
      injection h4 with h4
      omega
   have hen:(σ.scope sB bF bL bs l file env).en o.sc=σ.en o.sc:=if_neg hsc;exact⟨l1,l2,by rw[hen];exact l3,by rw[hen];exact l4.gr hgr,by rw[hen];exact l5,l6,l7⟩
  ·obtain⟨_,_,hd2,hsc,hfi⟩:=hblks o ho;have hdl:o.d∈l:=(List.mem_filter.1 hd2).1;have hdk:yY1 o.d=true:=(List.mem_filter.1 hd2).2;have hen:(σ.scope sB bF bL bs l file env).en o.sc=scOf sB bF bL bs l ::env:=if_pos hsc;have hOk:=hO.at_ hdl;refine⟨?_,(zZ2 hkN hiN hI).2.1 _ hOk,by rw[hen,hsc];exact hEI,by rw[hen];exact hEK,?_,by rw[hfi];exact hf,by rw[xX0 ho];exact yT7 _ _⟩
   ·generalize o.d=d at hOk hdk;cases d with
    | mk k p lb a b As cs subs Ab cb body At ct tail Al cl lead tr pos=>
      have h4:k=4:=of_decide_eq_true hdk;have:=hOk.1.2 h4;obtain⟨x,hx⟩:=List.length_eq_one_iff.1 this;exact⟨x,hx⟩
   ·rw[hen];have:=hD_le hdl;simp only[List.length_cons];omega
 ·have:=h.bu;show C.ct σ.x+(σ.ρ.all.length+wObs (σ.ρ.objs++zU5 bs (zZ7 l) sB file)+s)≤_;have e:wObs (σ.ρ.objs++zU5 bs (zZ7 l) sB file)=wObs σ.ρ.objs+wObs (zU5 bs (zZ7 l) sB file):=by simp[wObs]
  omega
 ·have:=h.lv;show wObs (σ.ρ.objs++zU5 bs (zZ7 l) sB file)+s≤n;have e:wObs (σ.ρ.objs++zU5 bs (zZ7 l) sB file)=wObs σ.ρ.objs+wObs (zU5 bs (zZ7 l) sB file):=by simp[wObs]
  omega
 ·rcases hmu b hb with h4 | h4
  ·exact .inl h4
  ·exact .inr (hn b h4)
 ·rcases hb with h4 | h4 | h4 | h4
  ·exact .inl h4
  all_goals exact .inr qG
theorem St.gather {c:Nat}{w1:World}{v:Value}{bs:List Nat}(h:St R C n (s+c) σ Im w)(hrow:w1.ownsRow 0 80 1 v (σ.ρ.all++bs).length ((σ.ρ.all++bs).map lptr))(hk:Kp (fun b=>σ.av.ownBlock=some b) w w1)(hv:v.ownBlock=σ.av.ownBlock∨∃ g,v.ownBlock=some g∧w.heap.size≤g)(hc:bs.length≤c) :
  St R C n s {σ with ρ:={σ.ρ with all:=σ.ρ.all++bs},av:=v} Im (w1.setCell ⟨R.r,5,none⟩ v)∧Sp (zn R C σ Im) w (zn R C {σ with ρ:={σ.ρ with all:=σ.ρ.all++bs},av:=v} Im) (w1.setCell ⟨R.r,5,none⟩ v)∧Gr w σ {σ with ρ:={σ.ρ with all:=σ.ρ.all++bs},av:=v}:=by
 have hk1:Kp (fun b=>b=R.r∨σ.av.ownBlock=some b) w w1:=hk.mono fun _ h=>.inr h;have hk2:Kp (fun b=>b=R.r∨σ.av.ownBlock=some b) w (w1.setCell ⟨R.r,5,none⟩ v):=hk1.setCell (p:=⟨R.r,5,none⟩) (.inl rfl) _;have hs:=hk2.size;have hMM:∀ b,(b=R.r∨σ.av.ownBlock=some b)→(zn R C σ Im).Mut b:=fun b hb=>hb.elim .inl fun h=>.inr (.inr (.inr (.inl h)));have hMut0:∀ b,(zn R C σ Im).Mut b→b < w.heap.size:=fun b hb=>(h.zo.mu b hb).1;have hvb:∀ b,v.ownBlock=some b→σ.av.ownBlock=some b∨w.heap.size≤b:=fun b hb=>by
  rcases hv with h1 | ⟨g,h1,h2⟩
  ·exact .inl (h1▸hb)
  ·rw[h1] at hb;injection hb with hb
   exact .inr (hb▸h2)
 have hvl:∀ b,v.ownBlock=some b→b < (w1.setCell ⟨R.r,5,none⟩ v).heap.size:=fun b hb=>by
  have:=(hrow.lt b hb).2;simpa[World.setCell] using this
 have hmu:∀ b,(zn R C {σ with ρ:={σ.ρ with all:=σ.ρ.all++bs},av:=v} Im).Mut b→(zn R C σ Im).Mut b∨(w.heap.size≤b∧v.ownBlock=some b):=fun b hb=>by
  rcases hb with h4 | h4 | h4 | h4 | h4
  ·exact .inl (.inl h4)
  ·exact .inl (.inr (.inl h4))
  ·exact .inl (.inr (.inr (.inl h4)))
  ·rcases hvb b h4 with h5 | h5
   ·exact .inl (.inr (.inr (.inr (.inl h5))))
   ·exact .inr ⟨h5,h4⟩
  ·exact .inl (.inr (.inr (.inr (.inr h4))))
 have hok:(zn R C {σ with ρ:={σ.ρ with all:=σ.ρ.all++bs},av:=v} Im).Ok (w1.setCell ⟨R.r,5,none⟩ v):=by
  refine⟨fun b hb=>?_,fun b hb=>Nat.lt_of_lt_of_le (h.zo.im b hb) hs⟩;rcases hmu b hb with h4 | ⟨h4,h5⟩
  ·exact⟨Nat.lt_of_lt_of_le (h.zo.mu b h4).1 hs,(h.zo.mu b h4).2⟩
  ·exact⟨hvl b h5,fun hi=>by have:=h.zo.im b hi;omega⟩
 refine⟨⟨h.cellR hk2 (fun _ h=>h) rfl rfl ?_,?_,C.keep h.cl hk2 fun b hb hm=>?_,hok,fun b hb=>?_,fun b hb=>?_,h.im,fun o ho=>(h.lo o ho).kept hk2 (h.stay hMM) (fun _ h=>h),?_,?_⟩,⟨hk2.mono hMM,fun b hb=>(hmu b hb).imp_right fun h=>h.1,fun _ h=>h,fun _ h=>.inl h,hok⟩,⟨fun o ho=>⟨o,ho,rfl⟩,fun _ _=>rfl⟩⟩
 ·have h1:=hk.blk h.rs.rc fun h2=>(h.am _ h2).1 rfl;have:=h1.set_ 5 v;simpa using this
 ·refine zU4 hrow ((Kp.refl (· = R.r) w1).setCell (p:=⟨R.r,5,none⟩) rfl _) fun b hb e=>?_;rcases hvb b hb with h5 | h5
  ·exact(h.am b h5).1 e
  ·have:=h.rs.rl;omega
 ·obtain⟨c1,c2,c3,c4⟩:=h.cm b hb;exact hm.elim c1 c4
 ·obtain⟨c1,c2,c3,c4⟩:=h.cm b hb;refine⟨c1,c2,c3,fun e=>?_⟩;rcases hvb b e with h5 | h5
  ·exact c4 h5
  ·have:=hMut0 b (.inr (.inr (.inr (.inr hb))));omega
 ·rcases hvb b hb with h5 | h5
  ·exact h.am b h5
  ·refine⟨fun e=>?_,fun hm=>?_,fun o ho e=>?_⟩
   ·have:=h.rs.rl;omega
   ·have:=h.rs.mp.uB b hm;omega
   ·have:=h.rs.ob.lt o ho;omega
 ·have:=h.bu;show C.ct σ.x+((σ.ρ.all++bs).length+wObs σ.ρ.objs+s)≤_;rw[List.length_append];omega
 ·have:=h.lv;show wObs σ.ρ.objs+s≤n;omega
end
theorem ValsOf.len {f:Tx→Option Value}{xs:List Value}(h:ValsOf f xs){L:List Tx}(hL:∀ s,(f s).isSome=true→s∈L):xs.length≤L.length:=by
 obtain⟨ks,h1,h2,h3,h4⟩:=h;have e:xs.length=ks.length:=by simpa using congrArg List.length h4
 rw[e];exact zN3 ks L h1 fun s hs=>hL s ((h2 s (h3 s hs)).1 hs)
def Dcl {X:Type}(decls:List DA)(file:Nat)(env:List ScA)(σ σ':GS X)(env':List ScA):Prop:=
 ∃ sB bF bL bs gs av,bs.length=(zZ7 decls).length∧xX1 σ sB bs∧env'=scOf sB bF bL bs decls ::env∧ValsOf (fL (((zZ7 decls).map lblD).zip bs)) (gs.map lptr)∧
   σ'= {σ.scope sB bF bL bs decls file env with ρ:={(σ.scope sB bF bL bs decls file env).ρ with twice:=!okD2 [] [] decls||σ.ρ.twice,all:=σ.ρ.all++gs},av:=av}
abbrev UseR (X:Type):=GS X→EA→Int × Int × Option Nat→Nat→GS X→EA→Prop
mutual
def VisE {X:Type}(R:RF)(U:UseR X):EA→List ScA→List Tx→Nat→GS X→GS X→EA→Prop
 | .mk k t m a b As cs subs Ad cd decls At ct tail pos,env,lp,file,σ,σ',e'=>
   (k=10∧U {σ with ρ:=zV3 file t (zW4 R.imps env lp file t) σ.ρ} (.mk k t m a b As cs subs Ad cd decls At ct tail pos) (zW4 R.imps env lp file t) file σ' e')∨
   (k≠10∧∃ σ1 subs' σ2 env2 decls' As' cs' Ad' cd' At' ct',zW9 R U subs 0 (if k=15 then[a,b] else[]) env lp file σ σ1 subs'∧
    (k=13∧Dcl decls file env σ1 σ2 env2∨k≠13∧σ2=σ1∧env2=env)∧zX6 R U decls env2 (if k=13 then[] else lp) file σ2 σ' decls'∧
    e'=.mk k t m a b As' cs' subs' Ad' cd' decls' At' ct' tail pos)
def zW9 {X:Type}(R:RF)(U:UseR X):List EA→Nat→List Tx→List ScA→List Tx→Nat→GS X→GS X→List EA→Prop
 | [],_,_,_,_,_,σ,σ',l'=>σ'=σ∧l'=[]
 | e ::r,i,nm,env,lp,file,σ,σ',l'=>∃ σ1 e1 r1,VisE R U e env (lp++if i=0 then[] else nm) file σ σ1 e1∧zW9 R U r (i+1) nm env lp file σ1 σ' r1∧l'=e1 ::r1
def VisD {X:Type}(R:RF)(U:UseR X):DA→List ScA→List Tx→Nat→GS X→GS X→DA→Prop
 | .mk k p l a b _ _ subs _ _ body _ _ tail _ _ lead tr pos,env,lp,file,σ,σ',d'=>
   ∃ σ1 subs' body' As' cs' Ab' cb' At' ct' Al' cl',zW9 R U subs 0 [] env lp file σ σ1 subs'∧zX6 R U body env (lp++if k=6 then[a,b] else[]) file σ1 σ' body'∧
     d'=.mk k p l a b As' cs' subs' Ab' cb' body' At' ct' tail Al' cl' lead tr pos
def zX6 {X:Type}(R:RF)(U:UseR X):List DA→List ScA→List Tx→Nat→GS X→GS X→List DA→Prop
 | [],_,_,_,σ,σ',l'=>σ'=σ∧l'=[]
 | d ::r,env,lp,file,σ,σ',l'=>∃ σ1 d1 r1,VisD R U d env lp file σ σ1 d1∧zX6 R U r env lp file σ1 σ' r1∧l'=d1 ::r1
end
section
variable {X:Type}{R:RF}{C:Clo X}{n s:Nat}{σ0 σ σ':GS X}{Im0 Im Im':Nat→Prop}{w wx wy:World}
theorem Mine.up {z:Zn}{b:Nat}(h:Mine z wx b)(hs:wx.heap.size≤wy.heap.size):Mine z wy b:=⟨Nat.lt_of_lt_of_le h.1 hs,h.2⟩
structure Fr (R:RF)(C:Clo X)(n s:Nat)(σ0:GS X)(Im0:Nat→Prop)(w:World)(σ:GS X)(Im:Nat→Prop)(wx:World):Prop where
 st:St R C n s σ Im wx
 sp:Sp (zn R C σ0 Im0) w (zn R C σ Im) wx
 gr:Gr w σ0 σ
theorem Fr.start (h:St R C n s σ Im w):Fr R C n s σ Im w σ Im w:=⟨h,Sp.refl h.zo,Gr.refl _ _⟩
theorem Fr.write (h:Fr R C n s σ0 Im0 w σ Im wx){N:Nat→Prop}(hk:Kp N wx wy)(hN:∀ b,N b→w.heap.size≤b∧¬ (zn R C σ Im).Mut b∧¬ Im b):Fr R C n s σ0 Im0 w σ Im wy:=
 ⟨h.st.kept hk fun b hb=>(hN b hb).2,h.sp.own_ hk fun b hb=>(hN b hb).1,h.gr⟩
theorem Fr.below (h:Fr R C n s σ0 Im0 w σ Im wx)(hb:Below wx.heap.size wx wy):Fr R C n s σ0 Im0 w σ Im wy:=
 h.write (N:=fun _=>False) (Kp.ofBelow hb _) (fun _ h=>h.elim)
theorem Fr.cell (h:Fr R C n s σ0 Im0 w σ Im wx){g:Nat}(hg:w.heap.size≤g)(hm:Mine (zn R C σ Im) wx g)(i:Nat)(v:Value):Fr R C n s σ0 Im0 w σ Im (wx.setCell ⟨g,i,none⟩ v):=
 h.write ((Kp.refl (· = g) wx).setCell (p:=⟨g,i,none⟩) rfl v) fun b hb=>by subst hb;exact⟨hg,hm.2⟩
theorem Fr.step {s':Nat}(h:Fr R C n s σ0 Im0 w σ Im wx)(h1:St R C n s' σ' Im' wy)(h2:Sp (zn R C σ Im) wx (zn R C σ' Im') wy)(h3:Gr wx σ σ'):Fr R C n s' σ0 Im0 w σ' Im' wy:=
 ⟨h1,h.sp.trans h2,h.gr.trans h3 h.sp.kp.size⟩
theorem Fr.freeze (h:Fr R C n s σ0 Im0 w σ Im wx){F:Nat→Prop}(hF:∀ b,F b→Mine (zn R C σ Im) wx b∧w.heap.size≤b):Fr R C n s σ0 Im0 w σ (fun b=>Im b∨F b) wx:=
 ⟨h.st.freeze fun b hb=>⟨(hF b hb).1,trivial⟩,h.sp.freeze h.st hF,h.gr⟩
theorem Fr.new_ (h:Fr R C n s σ0 Im0 w σ Im wx){b:Nat}(hb:wx.heap.size≤b)(hs:b < wy.heap.size):Mine (zn R C σ Im) wy b∧w.heap.size≤b:=⟨h.st.zo.new_ hb hs,Nat.le_trans h.sp.kp.size hb⟩
theorem Fr.less {s':Nat}(h:Fr R C n s σ0 Im0 w σ Im wx)(hs:s'≤s):Fr R C n s' σ0 Im0 w σ Im wx:=⟨h.st.less hs qJ,h.sp,h.gr⟩
theorem Sp.imN (_h:Sp (zn R C σ Im) wx (zn R C σ' Im') wy)(hz:(zn R C σ Im).Ok wx):∀ b,Im b→¬ (zn R C σ Im).Mut b:=fun b hb hm=>(hz.mu b hm).2 hb
theorem zG1 {α:Type}{k base e m c:Nat}{A:Option Addr}{enc:α→List Value}{l:List α}(hk:∀ x,(enc x).length=k)(h:Acc wx base e k (.slice A m c) m (l.flatMap enc))(hk0:0 < k):m=l.length∧Sl wx wx.heap.size k enc A l:=by
 have hl:(l.flatMap enc).length=l.length*k:=by
  clear h;induction l with
  | nil=>simp
  | cons x l ih=>rw[List.flatMap_cons,List.length_append,ih,hk,List.length_cons,Nat.succ_mul,Nat.add_comm]
 have hm:m=l.length:=by
  have:=h.length;rw[hl] at this;exact(Nat.eq_of_mul_eq_mul_right hk0 this).symm
 refine⟨hm,?_⟩;rcases h.cells with h0 | ⟨g,off,c',hv,hlt,hc⟩
 ·exact vW
 ·injection hv with h1 h2 h3
  subst h1;refine .inr ⟨g,off,rfl,hlt,fun i hi j v hv=>?_⟩;have:=hc (i*k+j) v ?_
  ·rw[←Nat.add_assoc] at this;exact this
  ·have hj:j < k:=by rw[←hk l[i]];exact(List.getElem?_eq_some_iff.1 hv).1
   exact(zF4 hk l i hi j hj).trans hv
end
theorem yX7 (s:Tx):∀ env,(zQ0 s env).1=0∨(zQ0 s env).1=1∨(zQ0 s env).1=2
 | []=>.inl rfl
 | x ::r=>by
   rw[zQ0];split
   ·exact .inr (.inr rfl)
   ·split
    ·exact .inr (.inl rfl)
    ·exact yX7 s r
theorem yC2 (imps:List (List Tx))(env:List ScA)(lp:List Tx)(file:Nat)(s:Tx):0≤(zW4 imps env lp file s).1∧(zW4 imps env lp file s).1 < 5:=by
 have h:=yX7 s env;unfold zW4;split
 ·exact⟨by decide,by decide⟩
 ·split
  ·split <;> exact⟨by decide,by decide⟩
  ·omega
def RetE {X:Type}(R:RF)(C:Clo X)(n s:Nat)(σ:GS X)(Im:Nat→Prop)(w:World)(V:GS X→EA→Prop)(r:Ending)(w':World):Prop:=
 ∃ σ' Im' e',r=.returned (.agg (encE e').toArray)∧V σ' e'∧St R C n s σ' Im' w'∧Sp (zn R C σ Im) w (zn R C σ' Im') w'∧Gr w σ σ'∧OkI Im' w' e'
def xX2 {X:Type}(R:RF)(C:Clo X)(n s:Nat)(σ:GS X)(Im:Nat→Prop)(w:World)(V:GS X→List DA→Prop)(r:Ending)(w':World):Prop:=
 ∃ σ' Im' l' A' c',r=.returned (.slice A' l'.length c')∧V σ' l'∧St R C n s σ' Im' w'∧Sp (zn R C σ Im) w (zn R C σ' Im') w'∧Gr w σ σ'∧SlI Im' w' 11 encD A' l'∧OkIds Im' w' l'
def yT9 {X:Type}(R:RF)(C:Clo X)(n:Nat)(U:UseR X)(g:Nat)(lb:Array Value):Prop:=
 ∀ (σ:GS X) (Im:Nat→Prop) (w:World) (s:Nat) (k:Int) (t:Tx) (m:Int) (a b:Tx) (As:Option Addr) (cs:Nat) (subs:List EA) (Ad:Option Addr) (cd:Nat) (decls:List DA) (At:Option Addr) (ct:Nat) (tail:List Tx) (pos:Int) (x:Int × Int × Option Nat) (file:Nat),
   St R C n (s+1) σ Im w→OkI Im w (.mk k t m a b As cs subs Ad cd decls At ct tail pos)→(∀ c,x.2.2=some c→∃ o∈σ.ρ.objs,o.blk=c)→file < R.uB.length→0≤x.1∧x.1 < 5→
   Calls Tryz.prog g (#[.agg (encE (.mk k t m a b As cs subs Ad cd decls At ct tail pos)).toArray,.agg #[.int .i64 (file:Nat),.int .i64 pos,.string ⟨t.toArray⟩,.int .i64 x.1,.int .i64 x.2.1],yT6 x.2.2]++lb) w
    (RetE R C n s σ Im w fun σ' e'=>U σ (.mk k t m a b As cs subs Ad cd decls At ct tail pos) x file σ' e')
def zO1 {X:Type}(R:RF)(C:Clo X)(n:Nat)(U:UseR X)(e:EA):Prop:=
 ∀ (σ:GS X) (Im:Nat→Prop) (w:World) (s:Nat) (env:List ScA) (v:Value) (lp:List Tx) (A:Option Addr) (c file:Nat),
   St R C n (s+wE e) σ Im w→OkI Im w e→EnvI Im w v env→EnvK σ.ρ.objs env→env≠[]→SlI Im w 1 encS A lp→file < R.uB.length→env.length+hE e≤1000→lp.length+2*hE e≤1000000→
   Calls Tryz.prog 93 #[.pointer (some ⟨R.r,0,none⟩),.agg (encE e).toArray,v,.slice A lp.length c,.int .i64 (file:Nat)] w (RetE R C n s σ Im w (VisE R U e env lp file σ))
def zQ2 {X:Type}(R:RF)(C:Clo X)(n:Nat)(U:UseR X)(l:List DA):Prop:=
 ∀ (σ:GS X) (Im:Nat→Prop) (w:World) (s:Nat) (env:List ScA) (v:Value) (lp:List Tx) (Al:Option Addr) (cl:Nat) (A:Option Addr) (c file:Nat),
   St R C n (s+vDs l) σ Im w→SlI Im w 11 encD Al l→OkIds Im w l→EnvI Im w v env→EnvK σ.ρ.objs env→env≠[]→SlI Im w 1 encS A lp→file < R.uB.length→env.length+hDs l≤1000→lp.length+2*hDs l≤1000000→
   Calls Tryz.prog 76 #[.pointer (some ⟨R.r,0,none⟩),.slice Al l.length cl,v,.slice A lp.length c,.int .i64 (file:Nat)] w (xX2 R C n s σ Im w (zX6 R U l env lp file σ))
theorem zF7 {X:Type}{R:RF}{U:UseR X}{nm lp:List Tx}{env:List ScA}{file:Nat}:∀ {l:List EA}{j:Nat}{σ σ1 σ2:GS X}{l':List EA}{e e':EA},zW9 R U l j nm env lp file σ σ1 l'→VisE R U e env (lp++if j+l.length=0 then[] else nm) file σ1 σ2 e'→zW9 R U (l++ [e]) j nm env lp file σ σ2 (l'++ [e'])
 | [],j,σ,σ1,σ2,l',e,e',h1,h2=>by
   rw[zW9] at h1;obtain⟨rfl,rfl⟩:=h1;show zW9 R U (e ::[]) j nm env lp file σ1 σ2 [e'];rw[zW9];exact⟨σ2,e',[],by simpa using h2,by rw[zW9];exact⟨rfl,rfl⟩,rfl⟩
 | x ::l,j,σ,σ1,σ2,l',e,e',h1,h2=>by
   rw[zW9] at h1;obtain⟨σ3,e1,r1,h3,h4,rfl⟩:=h1;show zW9 R U (x ::(l++ [e])) j nm env lp file σ σ2 (e1 ::r1++ [e']);rw[zW9];refine⟨σ3,e1,r1++ [e'],h3,zF7 h4 ?_,rfl⟩;have:(j+1+l.length=0)=(j+(x ::l).length=0):=by simp
   simp only[this];exact h2
theorem yX8 {X:Type}{R:RF}{U:UseR X}{lp:List Tx}{env:List ScA}{file:Nat}:∀ {l:List DA}{σ σ1 σ2:GS X}{l':List DA}{d d':DA},zX6 R U l env lp file σ σ1 l'→VisD R U d env lp file σ1 σ2 d'→zX6 R U (l++ [d]) env lp file σ σ2 (l'++ [d'])
 | [],σ,σ1,σ2,l',d,d',h1,h2=>by
   rw[zX6] at h1;obtain⟨rfl,rfl⟩:=h1;show zX6 R U (d ::[]) env lp file σ1 σ2 [d'];rw[zX6];exact⟨σ2,d',[],h2,by rw[zX6];exact⟨rfl,rfl⟩,rfl⟩
 | x ::l,σ,σ1,σ2,l',d,d',h1,h2=>by
   rw[zX6] at h1;obtain⟨σ3,e1,r1,h3,h4,rfl⟩:=h1;show zX6 R U (x ::(l++ [d])) env lp file σ σ2 (e1 ::r1++ [d']);rw[zX6];exact⟨σ3,e1,r1++ [d'],h3,yX8 h4 h2,rfl⟩
def FreeF (f:Fact):Prop:=∀ v W W',f v W→f v W'
theorem zU7 (u:Value):FreeF (isv u):=fun _ _ _ h=>h
theorem yS0:FreeF nof:=fun _ _ _ h=>h
def zN4:List Fact→Prop
 | []=>True
 | f ::fs=>FreeF f∧zN4 fs
theorem yW {u:Value}{fs:List Fact}(h:zN4 fs):zN4 (isv u::fs):=⟨zU7 u,h⟩
theorem yX {fs:List Fact}(h:zN4 fs):zN4 (nof::fs):=⟨yS0,h⟩
theorem yX9:∀ {fs:List Fact},zN4 fs→∀ i,FreeF (fs.getD i nof)
 | [],_,i=>by simpa using yS0
 | f ::fs,h,0=>by simpa using h.1
 | f ::fs,h,i+1=>by simpa using yX9 h.2 i
def upd (i:Nat)(D:Nat→Bool):Nat→Bool:=fun j=>j == i||D j
theorem phA {b:Bool}{A B:Prop}(h:(b=false∧A)∨(b=true∧B))(hb:b=false):A:=by
 rcases h with h | h
 ·exact h.2
 ·rw[hb] at h;cases h.1
theorem phB {b:Bool}{A B:Prop}(h:(b=false∧A)∨(b=true∧B))(hb:b=true):B:=by
 rcases h with h | h
 ·rw[hb] at h;cases h.1
 ·exact h.2
section
variable {P:Program}
def OneP (P:Program)(ops:Array Oper)(F:List Fact)(Ph:(Nat→Bool)→Act→World→Prop)(a:Act)(i:Nat)(o:Oper)(f:Fact):Prop:=
 ∀ (A:Act) (W:World) (D:Nat→Bool) (K:Act→World→Prop) (Q:Exit→Act→World→Prop),A.tmps.size=a.tmps.size→Ph D A W→D i=false→(∀ e (_:zV1 ops 9 i e=true:=by kernel_rfl),D e=true)→(∀ j (_:zV1 ops 9 j i=true:=by kernel_rfl),D j=false)→
   (∀ x v (_:zT8 ops x=true:=by kernel_rfl) (_:nth a.tmps.toList x=some v:=by exact rfl),A.tmps[x]? = some v)→
   (∀ e d (_:zV1 ops 3 i e=true:=by kernel_rfl) (_:zS2 ops e=some d:=by exact rfl),∃ v,A.tmps[d]? = some v∧(F.getD e nof) v W)→
   (∀ j d v,(j == i||zV1 ops 3 j i)=true→zS2 ops j=some d→nth a.tmps.toList d=some v→A.tmps[d]? = some v)→
   (∀ v W',f v W'→Ph (upd i D) (A.put o.dst v) W'→K (A.put o.dst v) W')→
   match o.guard with
   | none=>o.wp P A W K Q
   | some (g,want)=>∃ u d,zS2 ops g=some d∧A.tmps[d]? = some u∧xZ9 (isB want u) (o.wp P A W K Q) (f undef W∧Ph (upd i D) (A.put o.dst undef) W)
def AllP (P:Program)(ops:Array Oper)(F:List Fact)(Ph:(Nat→Bool)→Act→World→Prop)(a:Act):Nat→List Oper→List Fact→Prop
 | i,o ::os,f ::fs=>OneP P ops F Ph a i o f∧AllP P ops F Ph a (i+1) os fs
 | _,[],[]=>True
 | _,_,_=>False
structure HeldP (ops:Array Oper)(F:List Fact)(Ph:(Nat→Bool)→Act→World→Prop)(a:Act)(L:Array Bool)(A:Act)(W:World):Prop where
 size:L.size=ops.size
 ph:Ph (fun j=>L.getD j false) A W
 len:A.tmps.size=a.tmps.size
 defers:A.defers=a.defers
 same:∀ x,zT8 ops x=true→A.tmps[x]? = a.tmps[x]?
 late:∀ i d,L.getD i false=false→zS2 ops i=some d→A.tmps[d]? = a.tmps[d]?
 closed:∀ i e,L.getD i false=true→zW5 ops i e=true→L.getD e false=true
 fact:∀ i d,L.getD i false=true→zS2 ops i=some d→∃ v,A.tmps[d]? = some v∧(F.getD i nof) v W
theorem HeldP.closedN {ops:Array Oper}{F:List Fact}{Ph:(Nat→Bool)→Act→World→Prop}{a:Act}{L:Array Bool}{A:Act}{W:World}(h:HeldP ops F Ph a L A W):∀ n i e,L.getD i false=true→zV1 ops n i e=true→L.getD e false=true
 | 0,i,e,hi,hw=>h.closed i e hi hw
 | n+1,i,e,hi,hw=>by
   unfold zV1 at hw;rcases Bool.or_eq_true _ _▸hw with h1 | h1
   ·exact h.closed i e hi h1
   ·exact vK
theorem xX3 {ops:Array Oper}{F:List Fact}{Ph:(Nat→Bool)→Act→World→Prop}{a:Act}:∀ {os:List Oper}{fs:List Fact}{k:Nat},AllP P ops F Ph a k os fs→∀ {i:Nat}{o:Oper},os[i]? = some o→∃ f,fs[i]? = some f∧OneP P ops F Ph a (k+i) o f
 | [],fs,k,_,i,o,ho=>by simp at ho
 | x ::os,[],k,h,i,o,ho=>h.elim
 | x ::os,f ::fs,k,h,i,o,ho=>by
   cases i with
   | zero=>
     simp only[List.getElem?_cons_zero,Option.some.injEq] at ho;subst ho;exact⟨f,rfl,h.1⟩
   | succ i=>
     obtain⟨g,h1,h2⟩:=xX3 h.2 (i:=i) (by simpa using ho);exact⟨g,by simpa using h1,by rw[show k+(i+1)=k+1+i by omega];exact h2⟩
theorem HeldP.put {ops:Array Oper}{F:List Fact}{Ph:(Nat→Bool)→Act→World→Prop}{a:Act}{L:Array Bool}{A:Act}{W W':World}(hfree:zN4 F)(hdis:zV7 (ops.toList.map (·.dst))=true)(h:HeldP ops F Ph a L A W)
  {i:Nat}{o:Oper}(ho:ops[i]? = some o)(hd:(o.after.all fun e=>!Region.binds .any e||L.getD e.on false)=true)(hsz:∀ d,o.dst=some d→d < a.tmps.size){v:Value}
  (hv:(F.getD i nof) v W')(hb:Ph (upd i fun j=>L.getD j false) (A.put o.dst v) W'):HeldP ops F Ph a (L.setIfInBounds i true) (A.put o.dst v) W':=by
 have hi:i < ops.size:=(Array.getElem?_eq_some_iff.1 ho).1;have ho':ops.toList[i]? = some o:=by rw[Array.getElem?_toList];exact ho
 have hdst:zS2 ops i=o.dst:=by unfold zS2;rw[ho'];rfl
 have hset:∀ k,k≠i→(L.setIfInBounds i true).getD k false=L.getD k false:=fun k hk=>by
  simp[Array.getElem?_setIfInBounds_ne (Ne.symm hk)]
 have hput:∀ x,o.dst≠some x→(A.put o.dst v).tmps[x]? = A.tmps[x]?:=fun x hx=>by
  cases hod:o.dst with
  | none=>rfl
  | some d=>
    have hne:d≠x:=fun e=>hx (by rw[hod,e]);simp[Act.put,Array.getElem?_setIfInBounds_ne hne]
 have hpi:∀ d,o.dst=some d→(A.put o.dst v).tmps[d]? = some v:=fun d hd=>by
  have hlt:d < A.tmps.size:=by rw[h.len];exact hsz d hd
  rw[hd];simp[Act.put,hlt]
 have hupd:(upd i fun j=>L.getD j false)=fun j=>(L.setIfInBounds i true).getD j false:=by
  funext j;unfold upd;by_cases hj:j=i
  ·subst hj;have:j < L.size:=by rw[h.size];exact hi
   simp[this]
  ·rw[hset j hj];simp[hj]
 refine⟨by simpa using h.size,hupd▸hb,?_,?_,?_,?_,?_,?_⟩
 ·rw[←h.len];cases o.dst <;> simp[Act.put]
 ·exact xQ
 ·exact vP
 ·exact vL
 ·exact vF
 ·intro k d hk hkd;by_cases hki:k=i
  ·exact xS
  ·rw[hset k hki] at hk;obtain⟨u,h1,h2⟩:=h.fact k d hk hkd;refine⟨u,?_,yX9 hfree k _ _ _ h2⟩;rw[hput d (fun hod=>hki ?_),h1];exact zQ4 hdis hkd (show (ops.toList[i]?).bind (·.dst)=some d by rw[ho'];exact hod)
variable {ops:Array Oper}{Q:Exit→Act→World→Prop}
theorem zT5 {id:Nat}{a:Act}{w:World}(hm:P.follows .mixedOrders=true)(F:List Fact)(Ph:(Nat→Bool)→Act→World→Prop)(hw:Ph (fun _=>false) a w.drew)(hpos0:(ops.size == 0)=false)
  (hdis:zV7 (ops.toList.map (·.dst))=true)(hlt:dstLt ops a.tmps.size=true)(hwf:yK4 ops=true)(hlast:yO3 ops=true)
  (hfree:zN4 F)(steps0:AllP P ops F Ph a 0 (yU7 ops.toList) F)(hlen0:(yU7 ops.toList).length=F.length)(o:Oper)(ho0:yD9 ops.toList=some o)(hg:o.guard=none)
  (fin0:∀ W (D:Nat→Bool)(A:Act),(∀ i,i < ops.size-1→D i=true)→Ph D A W→∀ G:Act→Prop,(∀ A,o.wp P A W (fun A' W'=>Q .normal A' W') Q→G A)→zY0 W (fun B=>A=B→G B) (yU7 ops.toList) F a):(Code.region id ops true).wp P Q a w:=by
 have steps:=steps0;have hlen:=hlen0;have fin:=fun W D A0 hD hW=>fin0 W D A0 hD hW (fun A=>o.wp P A W (fun A' W'=>Q .normal A' W') Q) (fun _ h=>h);rw[zH5] at steps hlen;simp only[zH5] at fin;have ho:ops.toList.getLast? = some o:=(yU8 _).symm.trans ho0;have hpos:0 < ops.size:=by have:=beq_eq_false_iff_ne.1 hpos0;omega
 have hlst:ops.toList[ops.size-1]? = some o:=by rw[←Array.length_toList,←List.getLast?_eq_getElem?];exact ho
 have hpre:∀ i,i < ops.size-1→ops.toList.dropLast[i]? = ops.toList[i]?:=fun i hi=>by
  rw[List.dropLast_eq_take,List.getElem?_take];simp only[Array.length_toList];rw[if_pos hi]
 have hpre2:∀ i,ops.size-1≤i→ops.toList.dropLast[i]? = none:=fun i hi=>by
  rw[List.getElem?_eq_none_iff,List.length_dropLast,Array.length_toList];exact hi
 refine zS5 hm (fun L A W=>(L.getD (ops.size-1) false=false∧HeldP ops F Ph a L A W)∨(L.size=ops.size∧(∀ i,i < ops.size→L.getD i false=true)∧Q .normal A W)) ?_ ?_ ?_ hwf ?_
 ·rintro L A W (⟨_,h⟩ | ⟨h,_⟩)
  ·exact h.size
  ·exact h
 ·refine .inl ⟨?_,by simp,?_,rfl,rfl,fun _ _=>rfl,fun _ _ _ _=>rfl,fun i e h _=>?_,fun i d h _=>?_⟩
  ·simp only[Array.getD_eq_getD_getElem?,Array.getElem?_replicate];split <;> rfl
  ·exact vX
  all_goals
   exfalso;simp only[Array.getD_eq_getD_getElem?,Array.getElem?_replicate] at h;split at h <;> simp at h
 ·intro i oi ho1 L A W hL hdep hI;have hi:i < ops.size:=(Array.getElem?_eq_some_iff.1 ho1).1;rcases hI with ⟨hf,hI⟩ | ⟨hs,hall,_⟩
  rotate_left
  ·exact xK
  have hLi:L.getD i false=false:=by
   have:i < L.size:=by rw[hI.size];exact hi
   simpa[this] using hL
  have ho':ops.toList[i]? = some oi:=by rw[Array.getElem?_toList];exact ho1
  have hsz:∀ d,oi.dst=some d→d < a.tmps.size:=fun d hd=>by
   have:=(List.all_eq_true.1 hlt) oi (List.mem_of_getElem? ho');rw[hd] at this;simpa using this
  have hdirect:∀ e,zW5 ops i e=true→L.getD e false=true:=fun e he=>by
   unfold zW5 at he;rw[ho'] at he;obtain⟨x,hx,hy⟩:=List.any_eq_true.1 he;obtain⟨h2,h3⟩:=Bool.and_eq_true _ _▸hy;rw[Array.all_eq_true'] at hdep;have h4:=hdep x (by simpa using hx);rw[h2] at h4;have h5:x.on=e:=by simpa using h3
   rw[h5] at h4;simpa using h4
  have hdirN:∀ n e,zV1 ops n i e=true→L.getD e false=true:=fun n e he=>by
   cases n with
   | zero=>exact hdirect e he
   | succ n=>
     unfold zV1 at he;rcases Bool.or_eq_true _ _▸he with h2 | h2
     ·exact hdirect e h2
     ·exact vI
  by_cases hil:i=ops.size-1
  ·subst hil;obtain rfl:oi=o:=Option.some.inj (ho'.symm.trans hlst);have hall:∀ j,j < ops.size-1→L.getD j false=true:=fun j hj=>hdirN 9 j ((List.all_eq_true.1 hlast) j (List.mem_range.2 hj));have hfin:=zO5 (A:=A) ops.toList.dropLast F a hlen (fin W (fun j=>L.getD j false) A hall hI.ph) hI.len hI.defers (fun j d hd=>by
     by_cases hj:j < ops.size-1
     ·rw[hpre j hj] at hd;exact hI.fact j d (hall j hj) hd
     ·rw[hpre2 j qG] at hd;cases hd)
    (fun x hx=>by
     by_cases hod:oi.dst=some x
     ·exact hI.late (ops.size-1) x hf (by unfold zS2;rw[hlst];exact hod)
     ·refine hI.same x ?_;unfold zT8;rw[List.all_eq_true] at hx ⊢;intro y hy;have hsp:ops.toList=ops.toList.dropLast++ [oi]:=by
       obtain⟨ys,hys⟩:=List.getLast?_eq_some_iff.1 ho;rw[hys];simp
      rw[hsp] at hy;rcases List.mem_append.1 hy with h | h
      ·exact hx y h
      ·rw[List.mem_singleton.1 h];simpa using hod)
   unfold Region.wanted;rw[hg];simp only[if_true];refine .inl (Oper.wp_mono (fun A' W' h=>.inr ⟨by simpa using hI.size,fun j hj=>?_,h⟩) (hfin rfl));by_cases hj2:j=ops.size-1
   ·subst hj2;have:ops.size-1 < L.size:=by rw[hI.size];exact hj
    simp[this]
   ·exact vY
  ·have hi1:i < ops.size-1:=by omega
   obtain⟨f,hf2,h1⟩:=xX3 steps ((hpre i hi1).trans ho');rw[Nat.zero_add] at h1;have hfD:F.getD i nof=f:=by rw[List.getD_eq_getElem?_getD,hf2];rfl
   have hput:∀ v W',f v W'→Ph (upd i fun j=>L.getD j false) (A.put oi.dst v) W'→((L.setIfInBounds i true).getD (ops.size-1) false=false∧HeldP ops F Ph a (L.setIfInBounds i true) (A.put oi.dst v) W')∨((L.setIfInBounds i true).size=ops.size∧(∀ j,j < ops.size→(L.setIfInBounds i true).getD j false=true)∧Q .normal (A.put oi.dst v) W'):=fun v W' hv hb=>
    .inl ⟨by simpa[Array.getElem?_setIfInBounds_ne hil] using hf,hI.put hfree hdis ho1 hdep hsz (by rw[hfD];exact hv) hb⟩
   have h2:=h1 A W (fun j=>L.getD j false) (fun A' W'=>((L.setIfInBounds i true).getD (ops.size-1) false=false∧HeldP ops F Ph a (L.setIfInBounds i true) A' W')∨((L.setIfInBounds i true).size=ops.size∧(∀ j,j < ops.size→(L.setIfInBounds i true).getD j false=true)∧Q .normal A' W')) Q hI.len hI.ph hLi (fun e he=>hdirN 9 e he) (fun j hj=>by
     cases hlj:L.getD j false with
     | false=>rfl
     | true=>rw[hI.closedN 9 j i hlj hj] at hLi;cases hLi)
    (fun x v hx hv=>by rw[hI.same x hx,←Array.getElem?_toList,←zH4];exact hv)
    (fun e d he hd=>hI.fact e d (hdirN 3 e he) hd)
    (fun j d v hj hd hv=>by
     rw[hI.late j d ?_ hd,←Array.getElem?_toList,←zH4]
     ·exact hv
     ·rcases Bool.or_eq_true _ _▸hj with h3 | h3
      ·exact xA
      ·cases hlj:L.getD j false with
       | false=>rfl
       | true=>rw[hI.closedN 3 j i hlj h3] at hLi;cases hLi)
    hput
   unfold Region.wanted;cases hgi:oi.guard with
   | none=>
     rw[hgi] at h2;simp only[if_true];exact .inl h2
   | some gw=>
     obtain⟨g,want⟩:=gw;rw[hgi] at h2;obtain⟨u,d,h3,h4,h5⟩:=h2;have hy:(yielded ops A.tmps g == some want)=isB want u:=by
      unfold yielded;unfold zS2 at h3;rw[←Array.getElem?_toList,h3];simp only[Option.bind_some,h4];cases u <;> first | rfl | (rename_i b;cases b <;> cases want <;> rfl)
     simp only[hy];cases hbb:isB want u with
     | true=>
       rw[hbb] at h5;simp only[if_true];exact .inl h5
     | false=>
       rw[hbb] at h5;simp only[Bool.false_eq_true,if_false];exact hput _ _ h5.1 h5.2
 ·exact xH
theorem zG2 {o:Oper}{W:World}{A0 A A':Act}{fs:List Fact}{K:Act→World→Prop}{G:Act→Prop}(h:A=A')(hG:∀ A,o.wp P A W K Q→G A)(hq:A0=A'→o.wp P A' W K Q):zY0 W (fun B=>A0=B→G B) [] fs A:=by
 subst h;exact fun hA=>hG _ (hq hA)
end
theorem zR6 {A:Act}{d x:Nat}(h:d≠x)(v:Value):(A.put (some d) v).tmps[x]? = A.tmps[x]?:=by
 simp[Act.put,Array.getElem?_setIfInBounds_ne h]
theorem zB2 {A:Act}{d m:Nat}(hs:A.tmps.size=m)(h:d < m)(v:Value):(A.put (some d) v).tmps[d]? = some v:=by
 have:d < A.tmps.size:=by omega
 simp[Act.put,this]
end Go.Proofs.YtdgehhgjgifikaaGreatDoor
