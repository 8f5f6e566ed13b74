/- What the claim needs of:Fcd ZQ ZR QG ZT ZU. -/
import Derived.Test.YtdgehhgjgifikaaGreatDoorK4
import Derived.Test.YtdgehhgjgifikaaGreatDoorK23
import Derived.Test.YtdgehhgjgifikaaGreatDoorK20
import Derived.Test.YtdgehhgjgifikaaGreatDoorK11
import Derived.Shelf.SlSortCmp.NoneTotal
import Derived.Test.YtdgehhgjgifikaaGreatDoorK22
namespace Go.Proofs.YtdgehhgjgifikaaGreatDoor
open Go.RowKit
section
variable {P:Program}{ops:Array Oper}{Q:Exit→Act→World→Prop}
def xW9 (f:Fact):Prop:=∀ v W W',f v W→BelowD W.heap.size W W'→f v W'
theorem xV0:xW9 nof:=fun _ _ _ h _=>h
def yQ2:List Fact→Prop
 | []=>True
 | f ::fs=>xW9 f∧yQ2 fs
structure HeldD (ops:Array Oper)(F:List Fact)(z:Nat)(w0:World)(a:Act)(L:Array Bool)(A:Act)(W:World):Prop where
 size:L.size=ops.size
 below:BelowD z w0 W
 len:A.tmps.size=a.tmps.size
 defers:A.defers=a.defers
 same:∀ x,zT8 ops x=true→A.tmps[x]? = a.tmps[x]?
 late:∀ i d,L.getD i false=false→zS2 ops i=some d→A.tmps[d]? = a.tmps[d]?
 closed:∀ i e,L.getD i false=true→zW5 ops i e=true→L.getD e false=true
 fact:∀ i d,L.getD i false=true→zS2 ops i=some d→∃ v,A.tmps[d]? = some v∧(F.getD i nof) v W
theorem HeldD.closedN {ops:Array Oper}{F:List Fact}{z:Nat}{w0:World}{a:Act}{L:Array Bool}{A:Act}{W:World}(h:HeldD ops F z w0 a L A W):∀ n i e,L.getD i false=true→zV1 ops n i e=true→L.getD e false=true
 | 0,i,e,hi,hw=>h.closed i e hi hw
 | n+1,i,e,hi,hw=>by
   unfold zV1 at hw;rcases Bool.or_eq_true _ _▸hw with h1 | h1
   ·exact h.closed i e hi h1
   ·exact vK
theorem zA2:∀ {fs:List Fact},yQ2 fs→∀ i,xW9 (fs.getD i nof)
 | [],_,i=>by simpa using xV0
 | f ::fs,h,0=>by simpa using h.1
 | f ::fs,h,i+1=>by simpa using zA2 h.2 i
theorem HeldD.put {ops:Array Oper}{F:List Fact}{z:Nat}{w0:World}{a:Act}{L:Array Bool}{A:Act}{W W':World}(hz:z≤w0.heap.size)(hmono:yQ2 F)(hdis:zV7 (ops.toList.map (·.dst))=true)(h:HeldD ops F z w0 a L A W)
  {i:Nat}{o:Oper}(ho:ops[i]? = some o)(hd:(o.after.all fun e=>!Region.binds .any e||L.getD e.on false)=true)(hsz:∀ d,o.dst=some d→d < a.tmps.size){v:Value}
  (hv:(F.getD i nof) v W')(hb:BelowD W.heap.size W W'):HeldD ops F z w0 a (L.setIfInBounds i true) (A.put o.dst v) W':=by
 have hi:i < ops.size:=(Array.getElem?_eq_some_iff.1 ho).1;have ho':ops.toList[i]? = some o:=by rw[Array.getElem?_toList];exact ho
 have hdst:zS2 ops i=o.dst:=by unfold zS2;rw[ho'];rfl
 have hset:∀ k,k≠i→(L.setIfInBounds i true).getD k false=L.getD k false:=fun k hk=>by
  simp[Array.getElem?_setIfInBounds_ne (Ne.symm hk)]
 have hput:∀ x,o.dst≠some x→(A.put o.dst v).tmps[x]? = A.tmps[x]?:=fun x hx=>by
  cases hod:o.dst with
  | none=>rfl
  | some d=>
    have hne:d≠x:=fun e=>hx (by rw[hod,e]);simp[Act.put,Array.getElem?_setIfInBounds_ne hne]
 have hpi:∀ d,o.dst=some d→(A.put o.dst v).tmps[d]? = some v:=fun d hd=>by
  have hlt:d < A.tmps.size:=by rw[h.len];exact hsz d hd
  rw[hd];simp[Act.put,hlt]
 refine⟨by simpa using h.size,h.below.trans (hb.mono (Nat.le_trans hz h.below.size)),?_,?_,?_,?_,?_,?_⟩
 ·rw[←h.len];cases o.dst <;> simp[Act.put]
 ·exact xQ
 ·exact vP
 ·exact vL
 ·exact vF
 ·intro k d hk hkd;by_cases hki:k=i
  ·exact xS
  ·rw[hset k hki] at hk;obtain⟨u,h1,h2⟩:=h.fact k d hk hkd;refine⟨u,?_,zA2 hmono k _ _ _ h2 hb⟩;rw[hput d (fun hod=>hki ?_),h1];exact zQ4 hdis hkd (show (ops.toList[i]?).bind (·.dst)=some d by rw[ho'];exact hod)
end
open Go.Sort Go.Shelf
def LtD (a b:Df):Prop:=a.file < b.file∨a.file=b.file∧(a.pos < b.pos∨a.pos=b.pos∧(a.name < b.name∨a.name=b.name∧a.kind < b.kind))
theorem LtD.trans {a b c:Df}(h:LtD a b)(k:LtD b c):LtD a c:=by
 unfold LtD at *;rcases h with h | ⟨h,h2⟩
 ·rcases k with k | ⟨k,_⟩
  ·exact .inl qG
  ·exact .inl qG
 ·rcases k with k | ⟨k,k2⟩
  ·exact .inl qG
  ·refine .inr ⟨by omega,?_⟩;rcases h2 with h2 | ⟨h2,h3⟩
   ·rcases k2 with k2 | ⟨k2,_⟩
    ·exact .inl qG
    ·exact .inl qG
   ·rcases k2 with k2 | ⟨k2,k3⟩
    ·exact .inl qG
    ·refine .inr ⟨by omega,?_⟩;rcases h3 with h3 | ⟨h3,h4⟩
     ·rcases k3 with k3 | ⟨k3,_⟩
      ·exact .inl (List.lt_trans h3 k3)
      ·exact .inl (k3▸h3)
     ·rcases k3 with k3 | ⟨k3,k4⟩
      ·exact .inl (h3▸k3)
      ·exact .inr ⟨h3.trans k3,by omega⟩
theorem LtD.irrefl (a:Df):¬ LtD a a:=by
 unfold LtD;rintro(h | ⟨_,h | ⟨_,h | ⟨_,h⟩⟩⟩)
 ·omega
 ·omega
 ·exact List.lt_irrefl _ h
 ·omega
instance:Inhabited Df:=⟨⟨0,0,[],0⟩⟩
def AllK (ρ:RS):Prop:=∀ b∈ρ.all,∃ o∈ρ.objs,o.blk=b
theorem fL_blk {l:List (Tx × Nat)}{s:Tx}{v:Value}(h:fL l s=some v):∃ b,v=lptr b∧(s,b)∈l:=by
 unfold fL at h;cases hl:zU2 l s with
 | none=>rw[hl] at h;cases h
 | some b=>
   rw[hl] at h;simp only[Option.map_some,Option.some.injEq] at h;exact⟨b,h.symm,zS9 hl⟩
theorem yG5 {l:List (Tx × Nat)}{gs:List Nat}(h:ValsOf (fL l) (gs.map lptr)):∀ b∈gs,∃ s,(s,b)∈l:=fun b hb=>by
 obtain⟨ks,_,_,_,h4⟩:=h;have h5:some (lptr b)∈(gs.map lptr).map some:=List.mem_map.2 ⟨_,List.mem_map.2 ⟨b,hb,rfl⟩,rfl⟩;rw[h4] at h5;obtain⟨s,_,h6⟩:=List.mem_map.1 h5;obtain⟨b',e,h7⟩:=fL_blk h6;unfold lptr at e;injection e with e
 injection e with e
 injection e with e
 subst e;exact⟨s,h7⟩
theorem xV1 (file:Nat)(s:Tx)(x:Int × Int × Option Nat){r:RS}(h:AllK r):AllK (zV3 file s x r):=by
 unfold zV3;split
 ·rename_i b hb;intro c hc;obtain⟨o,ho,e⟩:=h c hc;refine⟨zL2 b o,List.mem_map.2 ⟨o,ho,rfl⟩,?_⟩;rw[←e];unfold zL2;split <;> rfl
 ·split
  ·exact h
  ·exact h
theorem dcl_all {X:Type}{decls:List DA}{file:Nat}{env env':List ScA}{σ σ':GS X}(hd:Dcl decls file env σ σ' env')(h:AllK σ.ρ):AllK σ'.ρ:=by
 obtain⟨sB,bF,bL,bs,gs,av,hlen,_,_,hv,rfl⟩:=hd;intro c hc;rcases List.mem_append.1 hc with hc | hc
 ·obtain⟨o,ho,e⟩:=h c hc;exact⟨o,List.mem_append_left _ ho,e⟩
 ·obtain⟨s,hs⟩:=yG5 hv c hc;have hb:c∈bs:=(List.of_mem_zip hs).2;obtain⟨i,hi,rfl⟩:=List.getElem_of_mem hb;refine⟨zC7 bs[i] sB file zK5 ((zZ7 decls)[i]' qG),List.mem_append_right _ ?_,rfl⟩;unfold zU5;refine List.mem_map.2 ⟨(bs[i],(zZ7 decls)[i]' qG),?_,rfl⟩;rw[List.mem_iff_getElem];exact⟨i,by rw[List.length_zip];omega,by rw[List.getElem_zip]⟩
theorem visInv {X:Type}(R:RF){U:UseR X}(Φ:GS X→Prop)(hU:∀ σ e x file σ' e',U σ e x file σ' e'→Φ σ→Φ σ')(hM:∀ file t x σ,Φ σ→Φ {σ with ρ:=zV3 file t x σ.ρ}) (hD:∀ decls file env σ σ' env',Dcl decls file env σ σ' env'→Φ σ→Φ σ') :
  (∀ e,∀ env lp file σ σ' e',VisE R U e env lp file σ σ' e'→Φ σ→Φ σ')∧(∀ d,∀ env lp file σ σ' d',VisD R U d env lp file σ σ' d'→Φ σ→Φ σ')∧
  (∀ l,∀ i nm env lp file σ σ' l',zW9 R U l i nm env lp file σ σ' l'→Φ σ→Φ σ')∧∀ l,∀ env lp file σ σ' l',zX6 R U l env lp file σ σ' l'→Φ σ→Φ σ':=
 zY9 (fun k t m a b As cs subs Ad cd decls At ct tail pos h1 h2 env lp file σ σ' e' h hA=>by
   rw[VisE] at h;rcases h with ⟨_,h⟩ | ⟨hk,σ1,subs',σ2,env2,decls',As',cs',Ad',cd',At',ct',hs,hd,hds,_⟩
   ·exact hU _ _ _ _ _ _ h (hM _ _ _ _ hA)
   ·refine h2 _ _ _ _ _ _ hds ?_;rcases hd with ⟨_,hd⟩ | ⟨_,rfl,_⟩
    ·exact hD _ _ _ _ _ _ hd (h1 _ _ _ _ _ _ _ _ hs hA)
    ·exact h1 _ _ _ _ _ _ _ _ hs hA)
  (fun k p l a b As cs subs Ab cb body At ct tail Al cl lead tr pos h1 h2 env lp file σ σ' d' h hA=>by
   rw[VisD] at h;obtain⟨σ1,subs',body',As',cs',Ab',cb',At',ct',Al',cl',hs,hb,_⟩:=h;exact h2 _ _ _ _ _ _ hb (h1 _ _ _ _ _ _ _ _ hs hA))
  (fun i nm env lp file σ σ' l' h hA=>by
   rw[zW9] at h;obtain⟨rfl,_⟩:=h;exact hA)
  (fun e l h1 h2 i nm env lp file σ σ' l' h hA=>by
   rw[zW9] at h;obtain⟨σ1,e1,r1,he,hl,_⟩:=h;exact h2 _ _ _ _ _ _ _ _ hl (h1 _ _ _ _ _ _ he hA))
  (fun env lp file σ σ' l' h hA=>by
   rw[zX6] at h;obtain⟨rfl,_⟩:=h;exact hA)
  (fun d l h1 h2 env lp file σ σ' l' h hA=>by
   rw[zX6] at h;obtain⟨σ1,d1,r1,hd,hl,_⟩:=h;exact h2 _ _ _ _ _ _ hl (h1 _ _ _ _ _ _ hd hA))
theorem yG6 {X:Type}(R:RF){U:UseR X}(Φ:GS X→Prop)(hU:∀ σ e x file σ' e',U σ e x file σ' e'→Φ σ→Φ σ')(hM:∀ file t x σ,Φ σ→Φ {σ with ρ:=zV3 file t x σ.ρ}) (hD:∀ decls file env σ σ' env',Dcl decls file env σ σ' env'→Φ σ→Φ σ') {env:List ScA} :
  ∀ {fs:List FA} {i:Nat} {σ σ':GS X} {rs:List (List DA)},zO6 R U env i fs σ σ' rs→Φ σ→Φ σ'
 | [],i,σ,σ',rs,⟨h,_⟩,hA=>by subst h;exact hA
 | f ::fs,i,σ,σ',rs,⟨σ1,d1,r1,h1,h2,_⟩,hA=>yG6 R Φ hU hM hD h2 ((visInv R Φ hU hM hD).2.2.2 _ _ _ _ _ _ _ h1 hA)
theorem root_all {p:PA}{R:RF}{σ0:GS Unit}{env:List ScA}(h:Root p R σ0 env):AllK σ0.ρ:=fun b hb=>by
 obtain⟨s,hs⟩:=yG5 h.al b hb;have hb:=(List.of_mem_zip hs).2;obtain⟨o,ho,e⟩:=List.mem_map.1 hb;exact⟨o,ho,e⟩
theorem yB6 {p:PA}{R:RF}{σ0 σ:GS Unit}{env:List ScA}{rs:List (List DA)}(h:Root p R σ0 env)(hV:zO6 R U0 env 0 p.files σ0 σ rs):AllK σ.ρ:=yG6 R (fun σ=>AllK σ.ρ) (fun _ _ _ _ _ _ h hA=>h.1▸hA) (fun _ _ _ _ hA=>xV1 _ _ _ hA) (fun _ _ _ _ _ _ hd hA=>dcl_all hd hA) hV (root_all h)
def posD (d:DA):Int:=(plD d).pos
def nI (l:List FA):Nat:=(l.map fun f=>f.imps.length).sum
theorem obC {w:World}{o:Ob}(h:Blk w o.blk 102 (obV o)):w.cell? ⟨o.blk,2,none⟩=some (.string ⟨(lblD o.d).toArray⟩)∧w.cell? ⟨o.blk,10,none⟩=some (.int .i64 (posD o.d))∧w.cell? ⟨o.blk,12,none⟩=some (.int .i64 (o.file:Nat))∧w.cell? ⟨o.blk,13,none⟩=some (.bool o.used):=by
 obtain⟨b,d,sc,file,used,act,hgt,ex,done⟩:=o;cases d;cases ex;exact⟨h.cell 2,h.cell 10,h.cell 12,h.cell 13⟩
mutual
def ndE:E→Nat
 | .mk _ _ _ _ _ subs decls tail _=>1+(ndEs subs+ndDs decls+tail.length)
def ndEs:List E→Nat
 | []=>0
 | x ::l=>ndE x+ndEs l
def ndD:D→Nat
 | .mk _ _ _ _ _ subs body tail lead _ _=>1+(ndEs subs+ndDs body+tail.length+lead.length)
def ndDs:List D→Nat
 | []=>0
 | x ::l=>ndD x+ndDs l
end
theorem yW8:(∀ l:List E,l.length≤ndEs l)∧∀ l:List D,l.length≤ndDs l:=by
 constructor
 ·intro l;induction l with
  | nil=>exact Nat.zero_le _
  | cons x l ih=>
    cases x;rw[ndEs,ndE,List.length_cons];omega
 ·intro l;induction l with
  | nil=>exact Nat.zero_le _
  | cons x l ih=>
    cases x;rw[ndDs,ndD,List.length_cons];omega
theorem nd_sz:(∀ e,ndE (plE e)≤1048576→szE e)∧(∀ d,ndD (plD d)≤1048576→szD d)∧(∀ l,ndEs (plEs l)≤1048576→szEs l)∧∀ l,ndDs (plDs l)≤1048576→szDs l:=
 zY9 (fun k t m a b As cs subs Ad cd decls At ct tail pos h1 h2 h=>by
   rw[plE,ndE] at h;have e1:=yW8.1 (plEs subs);have e2:=yW8.2 (plDs decls);rw[zX9,List.length_map] at e1;rw[zX3,List.length_map] at e2;rw[zX9,zX3] at h;exact⟨by omega,h1 (by rw[zX9];omega),by omega,h2 (by rw[zX3];omega),by omega⟩)
  (fun k p l a b As cs subs Ab cb body At ct tail Al cl lead tr pos h1 h2 h=>by
   rw[plD,ndD] at h;have e1:=yW8.1 (plEs subs);have e2:=yW8.2 (plDs body);rw[zX9,List.length_map] at e1;rw[zX3,List.length_map] at e2;rw[zX9,zX3] at h;exact⟨by omega,h1 (by rw[zX9];omega),by omega,h2 (by rw[zX3];omega),by omega,by omega⟩)
  (fun _=>trivial)
  (fun e l h1 h2 h=>by
   rw[plEs,ndEs] at h;exact⟨h1 qG,h2 qG⟩)
  (fun _=>trivial)
  (fun d l h1 h2 h=>by
   rw[plDs,ndDs] at h;exact⟨h1 qG,h2 qG⟩)
theorem nd_dp:(∀ e,dpE e≤ndE e)∧(∀ d,dpD d≤ndD d)∧(∀ l,dpEs l≤ndEs l)∧∀ l,dpDs l≤ndDs l:=
 yV9 (fun k t m a b subs decls tail pos h1 h2=>by rw[dpE,ndE];omega) (fun k p l a b subs body tail lead trail pos h1 h2=>by rw[dpD,ndD];omega)
  (by rw[dpEs];exact Nat.zero_le _) (fun e l h1 h2=>by rw[dpEs,ndEs];omega) (by rw[dpDs];exact Nat.zero_le _) (fun d l h1 h2=>by rw[dpDs,ndDs];omega)
theorem zM1 {a b n m:Nat}(hn:a≤2 ^ n*b)(h:n≤m):a≤2 ^ m*b:=Nat.le_trans hn (Nat.mul_le_mul_right b (Nat.pow_le_pow_right (by decide) h))
theorem nd_w:(∀ e,wE e≤2 ^ dpE (plE e)*ndE (plE e))∧(∀ d,bD d+vD d≤2 ^ dpD (plD d)*ndD (plD d))∧(∀ l,wEs l≤2 ^ dpEs (plEs l)*ndEs (plEs l))∧∀ l,bDs l+vDs l≤2 ^ dpDs (plDs l)*ndDs (plDs l):=
 zY9 (fun k t m a b As cs subs Ad cd decls At ct tail pos h1 h2=>by
   rw[wE,plE,dpE,ndE];have e1:=zM1 h1 (Nat.le_max_left _ (dpDs (plDs decls)));have e2:=zM1 h2 (Nat.le_max_right (dpEs (plEs subs)) _);generalize max (dpEs (plEs subs)) (dpDs (plDs decls))=q at e1 e2 ⊢;have hp:1≤2 ^ q:=Nat.one_le_two_pow;rw[Nat.pow_succ,Nat.mul_add,Nat.mul_one,Nat.mul_add,Nat.mul_add];generalize 2 ^ q=P at e1 e2 hp ⊢;have h3:P*2*ndEs (plEs subs)=2*(P*ndEs (plEs subs)):=by rw[Nat.mul_comm P 2,Nat.mul_assoc]
   have h4:P*2*ndDs (plDs decls)=2*(P*ndDs (plDs decls)):=by rw[Nat.mul_comm P 2,Nat.mul_assoc]
   rw[h3,h4];omega)
  (fun k p l a b As cs subs Ab cb body At ct tail Al cl lead tr pos h1 h2=>by
   rw[vD,plD,dpD,ndD];have hb:bD (.mk k p l a b As cs subs Ab cb body At ct tail Al cl lead tr pos)≤2+wEs subs:=by
    rw[bD];split <;> omega
   have e1:=zM1 h1 (Nat.le_max_left _ (dpDs (plDs body)));have e2:=zM1 h2 (Nat.le_max_right (dpEs (plEs subs)) _);generalize max (dpEs (plEs subs)) (dpDs (plDs body))=q at e1 e2 ⊢;have hp:1≤2 ^ q:=Nat.one_le_two_pow;rw[Nat.pow_succ,Nat.mul_add,Nat.mul_one,Nat.mul_add,Nat.mul_add,Nat.mul_add];generalize 2 ^ q=P at e1 e2 hp ⊢;have h3:P*2*ndEs (plEs subs)=2*(P*ndEs (plEs subs)):=by rw[Nat.mul_comm P 2,Nat.mul_assoc]
   have h4:P*2*ndDs (plDs body)=2*(P*ndDs (plDs body)):=by rw[Nat.mul_comm P 2,Nat.mul_assoc]
   rw[h3,h4];omega)
  (by rw[wEs];exact Nat.zero_le _)
  (fun e l h1 h2=>by
   rw[wEs,plEs,dpEs,ndEs,Nat.mul_add];have e1:=zM1 h1 (Nat.le_max_left _ (dpEs (plEs l)));have e2:=zM1 h2 (Nat.le_max_right (dpE (plE e)) _);omega)
  (by rw[bDs,vDs];exact Nat.zero_le _)
  (fun d l h1 h2=>by
   rw[bDs,vDs,plDs,dpDs,ndDs,Nat.mul_add];have e1:=zM1 h1 (Nat.le_max_left _ (dpDs (plDs l)));have e2:=zM1 h2 (Nat.le_max_right (dpD (plD d)) _);omega)
theorem nd_u (im:List (List Tx)):(∀ e,∀ env lp file,(uE im e env lp file).length≤ndE e)∧(∀ d,∀ env lp file,(uD im d env lp file).length≤ndD d)∧(∀ l,∀ nm i env lp file,(uEs im nm i l env lp file).length≤ndEs l)∧∀ l,∀ env lp file,(uDs im l env lp file).length≤ndDs l:=
 yV9 (fun k t m a b subs decls tail pos h1 h2 env lp file=>by
   rw[uE,ndE];split
   ·simp only[List.length_cons,List.length_nil];omega
   ·rw[List.length_append];have e1:=h1 (if k=15 then[a,b] else[]) 0 env lp file;have e2:=h2 (if k=13 then shpOf decls ::env else env) (if k=13 then[] else lp) file;omega)
  (fun k p l a b subs body tail lead trail pos h1 h2 env lp file=>by
   rw[uD,ndD,List.length_append];have e1:=h1 [] 0 env lp file;have e2:=h2 env (lp++if k=6 then[a,b] else[]) file;omega)
  (fun nm i env lp file=>by rw[uEs];exact Nat.zero_le _)
  (fun e l h1 h2 nm i env lp file=>by
   rw[uEs,ndEs,List.length_append];have e1:=h1 env (lp++if i=0 then[] else nm) file;have e2:=h2 nm (i+1) env lp file;omega)
  (fun env lp file=>by rw[uDs];exact Nat.zero_le _)
  (fun d l h1 h2 env lp file=>by
   rw[uDs,ndDs,List.length_append];have e1:=h1 env lp file;have e2:=h2 env lp file;omega)
def ndFs:List Fl→Nat
 | []=>0
 | f ::l=>1+f.imps.length+f.tail.length+ndDs f.decls+ndFs l
theorem zD8:∀ {l:List Fl}{f:Fl},f∈l→1+f.imps.length+f.tail.length+ndDs f.decls≤ndFs l
 | x ::l,f,h=>by
   rw[ndFs];rcases List.mem_cons.1 h with rfl | h
   ·omega
   ·have:=zD8 h;omega
theorem yG7:∀ l:List Fl,l.length≤ndFs l
 | []=>Nat.le_refl _
 | x ::l=>by
   rw[ndFs,List.length_cons];have:=yG7 l;omega
structure PkS (w:World)(p:PA):Prop where
 ok:OkP w w.heap.size p
 nd:ndFs (plP p).files≤1048576
theorem PkS.keep {w w1:World}{p:PA}(h:PkS w p)(hb:Below w.heap.size w w1):PkS w1 p:=⟨(h.ok.below hb).more hb.size,h.nd⟩
theorem PkS.pkL {w:World}{p:PA}(h:PkS w p):PkL w p:=by
 have hm:∀ f∈p.files,1+f.imps.length+f.tail.length+ndDs (plDs f.decls)≤1048576:=fun f hf=>Nat.le_trans (zD8 (List.mem_map.2 ⟨f,hf,rfl⟩:plF f∈(plP p).files)) h.nd;refine⟨h.ok,?_,fun f hf=>?_,fun f hf=>?_⟩
 ·have:=yG7 (plP p).files;have e:(plP p).files.length=p.files.length:=List.length_map ..;have:=h.nd;omega
 ·have:=hm f hf;have e:=yW8.2 (plDs f.decls);rw[zX3,List.length_map,←zX3] at e;exact⟨by omega,by omega,nd_sz.2.2.2 _ qG,by omega⟩
 ·have:=hm f hf;have:=nd_dp.2.2.2 (plDs f.decls);omega
theorem wF_nd:∀ {fs:List FA},(∀ f∈fs,dpDs (plDs f.decls)≤16)→wF fs+(fs.map fun f=>vDs f.decls).sum+nI fs≤65536*ndFs (fs.map plF)
 | [],_=>Nat.zero_le _
 | f ::fs,h=>by
   have ih:=wF_nd fun g hg=>h g (List.mem_cons_of_mem _ hg);have h1:=zM1 (nd_w.2.2.2 f.decls) (h f (List.mem_cons_self ..));have e:(2:Nat) ^ 16=65536:=by decide
   rw[e] at h1;have e1:wF (f ::fs)=bDs f.decls+wF fs:=by simp[wF]
   have e2:((f ::fs).map fun f=>vDs f.decls).sum=vDs f.decls+(fs.map fun f=>vDs f.decls).sum:=by simp
   have e3:nI (f ::fs)=f.imps.length+nI fs:=by simp[nI]
   have e4:ndFs ((f ::fs).map plF)=1+f.imps.length+f.tail.length+ndDs (plDs f.decls)+ndFs (fs.map plF):=rfl;rw[e1,e2,e3,e4];omega
section
variable {rx:Tx→Bool}{p:PA}{w:World}
theorem PkS.wt (h:PkS w p)(he:∀ f∈p.files,errF rx (plF f)=0):wF p.files+(p.files.map fun f=>vDs f.decls).sum+nI p.files≤68719476736:=by
 have h1:=wF_nd fun f hf=>(zB5 (he f hf)).2;have h2:ndFs (p.files.map plF)≤1048576:=h.nd;omega
theorem xV2 (rx:Tx→Bool)(p:PA)(w:World)(hP:PkS w p)(hR:∀ f∈p.files,PatDs (RxOk rx) (plDs f.decls))(hG:Glob w) :
  Calls Tryz.prog 14 #[.agg #[.string ⟨p.path.toArray⟩,.slice p.A p.files.length p.c]] w (zL4 (zT0 rx (plP p)).1 (zT0 rx (plP p)).2 w):=
 yG4 rx p w hP.pkL hR hG (fun he=>by have:=hP.wt he;omega) fun f hf im env lp i=>by
  have h1:=(nd_u im).2.2.2 (plDs f.decls) env lp i;have h2:=zD8 (List.mem_map.2 ⟨f,hf,rfl⟩:plF f∈(plP p).files);have h3:(plF f).decls=plDs f.decls:=rfl;rw[h3] at h2;have hn:ndFs (p.files.map plF)≤1048576:=hP.nd;omega
theorem yM6 (rx:Tx→Bool)(p:PA)(w:World)(hP:PkS w p)(hR:∀ f∈p.files,PatDs (RxOk rx) (plDs f.decls))(hG:Glob w) :
  Calls Tryz.prog 16 #[.agg #[.string ⟨p.path.toArray⟩,.slice p.A p.files.length p.c]] w (zL4 (zD0 rx (plP p)).1 (zD0 rx (plP p)).2 w):=
 yQ0 rx p w hP.pkL hR hG (fun he=>by have:=hP.wt he;omega) fun f hf im env lp i=>by
  have h1:=(nd_u im).2.2.2 (plDs f.decls) env lp i;have h2:=zD8 (List.mem_map.2 ⟨f,hf,rfl⟩:plF f∈(plP p).files);have h3:(plF f).decls=plDs f.decls:=rfl;rw[h3] at h2;have hn:ndFs (p.files.map plF)≤1048576:=hP.nd;omega
theorem zA3 (rx:Tx→Bool)(p:PA)(w:World)(hP:PkS w p)(hR:∀ f∈p.files,PatDs (RxOk rx) (plDs f.decls))(hG:Glob w) :
  Calls Tryz.prog 21 #[.agg #[.string ⟨p.path.toArray⟩,.slice p.A p.files.length p.c]] w (zG5 (zR0 rx (plP p)).1 (zR0 rx (plP p)).2 w):=
 yM5 rx p w hP.pkL hR hG fun he=>by have:=hP.wt he;omega
end
mutual
def htE:Nat→E→Nat
 | n,.mk _ _ _ _ _ subs decls _ _=>if n=0 then 0 else min (max (htEs (n-1) subs) (htDs (n-1) decls)+1) n
def htEs:Nat→List E→Nat
 | _,[]=>0
 | n,x ::l=>max (htE n x) (htEs n l)
def htD:Nat→D→Nat
 | n,.mk _ _ _ _ _ subs body _ _ _ _=>if n=0 then 0 else max (htEs (n-1) subs) (htDs (n-1) body)+1
def htDs:Nat→List D→Nat
 | _,[]=>0
 | n,x ::l=>max (htD n x) (htDs n l)
end
theorem yG8:∀ e,htE 0 e=0
 | .mk ..=>by rw[htE];rfl
theorem htD_zero:∀ d,htD 0 d=0
 | .mk ..=>by rw[htD];rfl
theorem yM7:∀ l,htDs 0 l=0
 | []=>rfl
 | x ::l=>by rw[htDs,htD_zero,yM7 l];rfl
theorem zA4 (n:Nat):∀ (l:List E)(x:E),htEs n (l++ [x])=max (htEs n l) (htE n x)
 | [],x=>by rw[List.nil_append,htEs,htEs];exact Nat.max_comm _ _
 | y ::l,x=>by rw[List.cons_append,htEs,htEs,zA4 n l x,Nat.max_assoc]
theorem yM8 (n:Nat):∀ (l:List D)(x:D),htDs n (l++ [x])=max (htDs n l) (htD n x)
 | [],x=>by rw[List.nil_append,htDs,htDs];exact Nat.max_comm _ _
 | y ::l,x=>by rw[List.cons_append,htDs,htDs,yM8 n l x,Nat.max_assoc]
theorem xV3:∀ (n:Nat)(e:E),htE n e≤n
 | n,.mk ..=>by
   rw[htE];split
   ·omega
   ·exact Nat.min_le_right _ _
theorem xV4 (n:Nat):∀ l,htEs n l≤n
 | []=>Nat.zero_le _
 | x ::l=>by rw[htEs];exact Nat.max_le.2 ⟨xV3 n x,xV4 n l⟩
mutual
theorem htD_le:∀ (n:Nat)(d:D),htD n d≤n
 | n,.mk k p l a b subs body tail lead trail pos=>by
   rw[htD];split
   ·omega
   ·have h1:=xV4 (n-1) subs;have h2:=yQ3 (n-1) body;omega
theorem yQ3:∀ (n:Nat)(l:List D),htDs n l≤n
 | _,[]=>Nat.zero_le _
 | n,x ::l=>by rw[htDs];exact Nat.max_le.2 ⟨htD_le n x,yQ3 n l⟩
end
def xV5:DA→List DA
 | .mk _ _ _ _ _ _ _ _ _ _ body _ _ _ _ _ _ _ _=>body
theorem yG9 {w:World}{B:Nat}:∀ {l:List DA}(_:OkAds w B l){d:DA}(_:d∈l),OkAd w B d
 | _ ::_,h,_,he=>by
   rcases List.mem_cons.1 he with rfl | he
   ·exact h.1
   ·exact yG9 h.2 he
def TlOk (e:EA):Prop:=∀ (n:Nat) (w:World),n≤16→OkA w w.heap.size e→
 Calls Tryz.prog 133 #[.agg (encE e).toArray,.int .i64 ((n+1:Nat):Int)] w fun r w'=>r=.returned (.int .i64 (htE (n+1) (plE e):Nat))∧Below w.heap.size w w'
def DpOk (l:List DA):Prop:=∀ (A:Option Addr) (c n:Nat) (w:World),n≤17→SlN w w.heap.size 11 encD A l→OkAds w w.heap.size l→
 Calls Tryz.prog 164 #[.slice A l.length c,.int .i64 (n:Nat)] w fun r w'=>r=.returned (.int .i64 (htDs n (plDs l):Nat))∧Below w.heap.size w w'
set_option maxRecDepth 100000 in
set_option maxHeartbeats 4000000 in
theorem yB7 {k:Int}{t:Tx}{m:Int}{a b:Tx}{As:Option Addr}{cs:Nat}{subs:List EA}{Ad:Option Addr}{cd:Nat}{decls:List DA}{At:Option Addr}{ct:Nat}{tail:List Tx}{pos:Int}(hE:∀ x∈subs,TlOk x)(hD:DpOk decls):TlOk (.mk k t m a b As cs subs Ad cd decls At ct tail pos):=by
 intro n w hn hOk;have hb:=(Below.refl w.heap.size w).alloc qJ (.cells #[.int .i64 k,.string ⟨t.toArray⟩,.int .i64 m,.string ⟨a.toArray⟩,.string ⟨b.toArray⟩,.slice As subs.length cs,.slice Ad decls.length cd,.slice At tail.length ct,.int .i64 pos] 67);have HBx:=qK (Blk.new w 67 #[.int .i64 k,.string ⟨t.toArray⟩,.int .i64 m,.string ⟨a.toArray⟩,.string ⟨b.toArray⟩,.slice As subs.length cs,.slice Ad decls.length cd,.slice At tail.length ct,.int .i64 pos]);have HW:=qK hb;have hO1:=(zW2 hb).1 _ hOk;rw[OkA] at hO1;have HS:=qK ((hO1.2.1.more hb.size));have HOs:=qK ((zV8 hb.size).2.2.1 _ hO1.2.2.1);have HSd:=qK ((hO1.2.2.2.1.more hb.size));have HOd:=qK ((zV8 hb.size).2.2.2 _ hO1.2.2.2.2.1);have hsl:=hO1.2.1.2;have HT:=qK hE;have HDp:=qK hD;have hre:htE (n+1) (plE (.mk k t m a b As cs subs Ad cd decls At ct tail pos))=min (max (htEs n (plEs subs)) (htDs n (plDs decls))+1) (n+1):=by
  rw[plE,htE,if_neg qG];rfl
 rw[hre];obtain⟨N,hN⟩:∃ N:Int,N=((n+1:Nat):Int):=⟨_,rfl⟩;rw[←hN];have hN17:N≤17:=by omega
 have hN0:1≤N:=by omega
 have HN:=qK hN;clear hN;clear hb hO1 hOk hE hD hre;simp only[encE];go_enter Tryz.func133,Tryz.ntmps133
 go_upto_region 2 with fail
 generalize hw1:w.alloc (.cells #[.int .i64 k,.string ⟨t.toArray⟩,.int .i64 m,.string ⟨a.toArray⟩,.string ⟨b.toArray⟩,.slice As subs.length cs,.slice Ad decls.length cd,.slice At tail.length ct,.int .i64 pos] 67)=w1 at HBx HW HS HOs HSd HOd ⊢;clear hw1;have HBl:=qK (show w.heap.size < w1.heap.size from HBx.out.lt);obtain⟨e0,e1,e2,e3,e4,e5,e6,e7,e8⟩:=zZ6 HBx.out;go_upto_region 3 with fail
 clear e0 e1 e2 e3 e4 e5 e6 e7 e8;go_loopw [5,11] (fun vv iv wq=>∃ (i mx:Nat),i≤subs.length∧iv=.int .i64 (i:Nat)∧vv=.int .i64 (mx:Nat)∧Hid (mx=htEs n ((subs.take i).map plE))∧mx≤17∧Hid (Below w1.heap.size w1 wq)) (fun _ iv _=>subs.length-(intOf iv).toNat)
 case atStart=>exact⟨0,0,Nat.zero_le _,rfl,rfl,qK rfl,by omega,qK qH⟩
 case round=>
  obtain⟨i,mx,hi,rfl,rfl,HM,hmx,HB⟩:=hrel;by_cases hlt:i < subs.length
  ·have hlt':(i:Int) < (subs.length:Int):=by omega
   obtain⟨bb,off,hA,hbW,hc⟩:=HS.out.1.at_ hlt;have HTk:=qK (show htEs n ((subs.take (i+1)).map plE)=max (htEs n ((subs.take i).map plE)) (htE n (plE subs[i])) from by
    rw[List.take_succ_eq_append_getElem hlt,List.map_append,List.map_cons,List.map_nil,zA4])
   have HOx:=qK (HOs.out.at_ (List.getElem_mem hlt));have HTx:=qK (HT.out _ (List.getElem_mem hlt));generalize subs[i]=x at hc HTk HOx HTx;have hxe:∃ xk xt xm xa xb xAs xcs xsubs xAd xcd xdecls xAt xct xtail xpos,x=.mk xk xt xm xa xb xAs xcs xsubs xAd xcd xdecls xAt xct xtail xpos:=by cases x;exact⟨_,_,_,_,_,_,_,_,_,_,_,_,_,_,_,rfl⟩
   obtain⟨xk,xt,xm,xa,xb,xAs,xcs,xsubs,xAd,xcd,xdecls,xAt,xct,xtail,xpos,rfl⟩:=hxe;have c0:=zZ0 HB.out hbW (hc 0 _ rfl);have c1:=zZ0 HB.out hbW (hc 1 _ rfl);have c2:=zZ0 HB.out hbW (hc 2 _ rfl);have c3:=zZ0 HB.out hbW (hc 3 _ rfl);have c4:=zZ0 HB.out hbW (hc 4 _ rfl);have c5:=zZ0 HB.out hbW (hc 5 _ rfl);have c6:=zZ0 HB.out hbW (hc 6 _ rfl);have c7:=zZ0 HB.out hbW (hc 7 _ rfl);have c8:=zZ0 HB.out hbW (hc 8 _ rfl);dsimp only[Nat.add_zero] at c0 c1 c2 c3 c4 c5 c6 c7 c8;have hba:=(Below.refl wr.heap.size wr).alloc qJ (.cells #[.int .i64 xk,.string ⟨xt.toArray⟩,.int .i64 xm,.string ⟨xa.toArray⟩,.string ⟨xb.toArray⟩,.slice xAs xsubs.length xcs,.slice xAd xdecls.length xcd,.slice xAt xtail.length xct,.int .i64 xpos] 67);have B1:=qK (Blk.new wr 67 #[.int .i64 xk,.string ⟨xt.toArray⟩,.int .i64 xm,.string ⟨xa.toArray⟩,.string ⟨xb.toArray⟩,.slice xAs xsubs.length xcs,.slice xAd xdecls.length xcd,.slice xAt xtail.length xct,.int .i64 xpos]);have HB1:=qK (HB.out.trans (hba.mono HB.out.size));go_upto_region 5 with fail
   clear c0 c1 c2 c3 c4 c5 c6 c7 c8 hbW hA hba hc HB;obtain⟨gx,hgx⟩:∃ gx,gx=wr.heap.size:=⟨_,rfl⟩;rw[←hgx] at B1 ⊢;generalize wr.alloc (.cells #[.int .i64 xk,.string ⟨xt.toArray⟩,.int .i64 xm,.string ⟨xa.toArray⟩,.string ⟨xb.toArray⟩,.slice xAs xsubs.length xcs,.slice xAd xdecls.length xcd,.slice xAt xtail.length xct,.int .i64 xpos] 67)=wb at B1 HB1 ⊢;clear hgx;obtain⟨e0,e1,e2,e3,e4,e5,e6,e7,e8⟩:=zZ6 B1.out;by_cases hn0:n=0
   ·subst hn0;have hN1:N=1:=by have:=HN.out;omega
    go_wp2;exact⟨⟨i+1,mx,by omega,by go_num,rfl,qK (by rw[HTk.out,yG8,HM.out];simp),by omega,HB1⟩,by simp[intOf];omega⟩
   ·obtain⟨q,rfl⟩:∃ q,n=q+1:=⟨n-1,by omega⟩;have cT:=HTx.out q wb qG ((zV8 HB1.out.size).1 _ ((zW2 HB1.out).1 _ HOx.out));simp only[encE] at cT;have hq:((q+1:Nat):Int)=N-1:=by have:=HN.out;omega
    have hN1:1 < N:=by omega
    rw[hq] at cT;clear hq;have hle:=xV3 (q+1) (plE (.mk xk xt xm xa xb xAs xcs xsubs xAd xcd xdecls xAt xct xtail xpos));have HTy:=qK (show max mx (htE (q+1) (plE (.mk xk xt xm xa xb xAs xcs xsubs xAd xcd xdecls xAt xct xtail xpos)))=htEs (q+1) ((subs.take (i+1)).map plE) from by rw[HTk.out,HM.out]);generalize htE (q+1) (plE (.mk xk xt xm xa xb xAs xcs xsubs xAd xcd xdecls xAt xct xtail xpos))=hx at cT hle HTy;go_wp2_with fail
    refine cT.mono ?_;rintro r w4 ⟨rfl,hb4⟩;have HB4:=qK (HB1.out.trans (hb4.mono HB1.out.size));clear cT hb4 e0 e1 e2 e3 e4 e5 e6 e7 e8;have hmc:max (mx:Int) (hx:Int)=((max mx hx:Nat):Int):=by omega
    go_wp2;go_roundw
    case rel=>exact⟨i+1,max mx hx,by omega,by go_num,by first | rfl | rw[hmc],qK HTy.out,by omega,HB4⟩
    case measure=>simp[intOf];omega
  ·obtain rfl:i=subs.length:=by omega
   rw[List.take_length,←zX9] at HM;obtain⟨e0,e1,e2,e3,e4,e5,e6,e7,e8⟩:=zZ6 ((Kp.low HB.out).blk HBx.out (by have:=HBl.out;omega));have cD:=HDp.out Ad cd n wr qG ((HSd.out.below HB.out).more HB.out.size) ((zV8 HB.out.size).2.2.2 _ ((zW2 HB.out).2.2.2 _ HOd.out));have hle:=yQ3 n (plDs decls);have hq:(n:Int)=N-1:=by have:=HN.out;omega
   rw[hq] at cD;clear hq;obtain⟨hd,hhd⟩:∃ hd,hd=htDs n (plDs decls):=⟨_,rfl⟩;rw[←hhd] at cD hle;have HHd:=qK hhd;clear hhd;go_wp2_with fail
   refine cD.mono ?_;rintro r w4 ⟨rfl,hb4⟩;have HB4:=qK (HW.out.trans ((HB.out.trans (hb4.mono HB.out.size)).mono HW.out.size));clear cD hb4 e0 e1 e2 e3 e4 e5 e6 e7 e8;go_wp2;go_ret;refine⟨?_,HB4.out⟩;rw[←HHd.out,←HM.out];have hv:min (max (mx:Int) (hd:Int)+1) N=((min (max mx hd+1) (n+1):Nat):Int):=by have:=HN.out;omega
   rw[hv];rfl
set_option maxRecDepth 100000 in
set_option maxHeartbeats 4000000 in
theorem yW9 {l:List DA}(hD:∀ d∈l,(∀ x∈zU3 d,TlOk x)∧DpOk (xV5 d)):DpOk l:=by
 intro A c n w hn hSl hOk;obtain⟨N,hN⟩:∃ N:Int,N=(n:Int):=⟨_,rfl⟩;rw[←hN];have hN17:N≤17:=by omega
 have hN0:0≤N:=by omega
 have HN:=qK hN;have HS:=qK hSl;have HOs:=qK hOk;have hsl:=hSl.2;have HT:=qK hD;clear hN hSl hOk hD;go_enter Tryz.func164,Tryz.ntmps164
 go_upto_region 3 with fail
 go_loopw [5,12] (fun vv iv wq=>∃ (i mx:Nat),i≤l.length∧iv=.int .i64 (i:Nat)∧vv=.int .i64 (mx:Nat)∧Hid (mx=htDs n ((l.take i).map plD))∧mx≤17∧Hid (Below w.heap.size w wq)) (fun _ iv _=>l.length-(intOf iv).toNat)
 case atStart=>exact⟨0,0,Nat.zero_le _,rfl,rfl,qK rfl,by omega,qK qH⟩
 case round=>
  obtain⟨i,mx,hi,rfl,rfl,HM,hmx,HB⟩:=hrel;by_cases hlt:i < l.length
  ·have hlt':(i:Int) < (l.length:Int):=by omega
   obtain⟨bb,off,hA,hbW,hc⟩:=HS.out.1.at_ hlt;have HTk:=qK (show htDs n ((l.take (i+1)).map plD)=max (htDs n ((l.take i).map plD)) (htD n (plD l[i])) from by
    rw[List.take_succ_eq_append_getElem hlt,List.map_append,List.map_cons,List.map_nil,yM8])
   have HOx:=qK (yG9 HOs.out (List.getElem_mem hlt));have HTx:=qK (HT.out _ (List.getElem_mem hlt));generalize l[i]=x at hc HTk HOx HTx;have hxe:∃ xk xp xl xa xb xAs xcs xsubs xAb xcb xbody xAt xct xtail xAl xcl xlead xtr xpos,x=.mk xk xp xl xa xb xAs xcs xsubs xAb xcb xbody xAt xct xtail xAl xcl xlead xtr xpos:=by cases x;exact⟨_,_,_,_,_,_,_,_,_,_,_,_,_,_,_,_,_,_,_,rfl⟩
   obtain⟨xk,xp,xl,xa,xb,xAs,xcs,xsubs,xAb,xcb,xbody,xAt,xct,xtail,xAl,xcl,xlead,xtr,xpos,rfl⟩:=hxe;have c0:=zZ0 HB.out hbW (hc 0 _ rfl);have c1:=zZ0 HB.out hbW (hc 1 _ rfl);have c2:=zZ0 HB.out hbW (hc 2 _ rfl);have c3:=zZ0 HB.out hbW (hc 3 _ rfl);have c4:=zZ0 HB.out hbW (hc 4 _ rfl);have c5:=zZ0 HB.out hbW (hc 5 _ rfl);have c6:=zZ0 HB.out hbW (hc 6 _ rfl);have c7:=zZ0 HB.out hbW (hc 7 _ rfl);have c8:=zZ0 HB.out hbW (hc 8 _ rfl);have c9:=zZ0 HB.out hbW (hc 9 _ rfl);have c10:=zZ0 HB.out hbW (hc 10 _ rfl);dsimp only[Nat.add_zero] at c0 c1 c2 c3 c4 c5 c6 c7 c8 c9 c10;have hba:=(Below.refl wr.heap.size wr).alloc qJ (.cells #[.int .i64 xk,.int .i64 xp,.string ⟨xl.toArray⟩,.string ⟨xa.toArray⟩,.string ⟨xb.toArray⟩,.slice xAs xsubs.length xcs,.slice xAb xbody.length xcb,.slice xAt xtail.length xct,.slice xAl xlead.length xcl,.string ⟨xtr.toArray⟩,.int .i64 xpos] 71);have B1:=qK (Blk.new wr 71 #[.int .i64 xk,.int .i64 xp,.string ⟨xl.toArray⟩,.string ⟨xa.toArray⟩,.string ⟨xb.toArray⟩,.slice xAs xsubs.length xcs,.slice xAb xbody.length xcb,.slice xAt xtail.length xct,.slice xAl xlead.length xcl,.string ⟨xtr.toArray⟩,.int .i64 xpos]);have HB1:=qK (HB.out.trans (hba.mono HB.out.size));go_upto_region 5 with fail
   clear c0 c1 c2 c3 c4 c5 c6 c7 c8 c9 c10 hbW hA hba hc HB;obtain⟨gx,hgx⟩:∃ gx,gx=wr.heap.size:=⟨_,rfl⟩;rw[←hgx] at B1 ⊢;generalize wr.alloc (.cells #[.int .i64 xk,.int .i64 xp,.string ⟨xl.toArray⟩,.string ⟨xa.toArray⟩,.string ⟨xb.toArray⟩,.slice xAs xsubs.length xcs,.slice xAb xbody.length xcb,.slice xAt xtail.length xct,.slice xAl xlead.length xcl,.string ⟨xtr.toArray⟩,.int .i64 xpos] 71)=wb at B1 HB1 ⊢;clear hgx;by_cases hn0:n=0
   ·subst hn0;have hN1:N=0:=by have:=HN.out;omega
    go_wp2;go_ret;exact⟨by rw[yM7];rfl,HB1.out⟩
   ·obtain⟨q,rfl⟩:∃ q,n=q+1:=⟨n-1,by omega⟩;have hN1:1≤N:=by have:=HN.out;omega
    have hOx:=HOx.out;rw[OkAd] at hOx;have HSx:=qK hOx.2.1;have HOe:=qK hOx.2.2.1;have HSb:=qK hOx.2.2.2.1;have HOb:=qK hOx.2.2.2.2.1;have hsx:=hOx.2.1.2;have HTe:=qK (show ∀ x∈xsubs,TlOk x from HTx.out.1);have HTb:=qK (show DpOk xbody from HTx.out.2);have hde:htD (q+1) (plD (.mk xk xp xl xa xb xAs xcs xsubs xAb xcb xbody xAt xct xtail xAl xcl xlead xtr xpos))=max (htEs q (plEs xsubs)) (htDs q (plDs xbody))+1:=by
     rw[plD,htD,if_neg qG];rfl
    rw[hde] at HTk;have d5:=B1.out.cell 5;clear hOx hde HOx HTx;go_upto_region 8 with fail
    clear d5;go_loopw [5,21] (fun vv jv wq=>∃ (j my:Nat),j≤xsubs.length∧jv=.int .i64 (j:Nat)∧vv=.int .i64 (my:Nat)∧Hid (max my 1=max (max mx 1) (htEs q ((xsubs.take j).map plE)+1))∧my≤17∧Hid (Below w.heap.size w wq)∧Hid (Blk wq gx 71 #[.int .i64 xk,.int .i64 xp,.string ⟨xl.toArray⟩,.string ⟨xa.toArray⟩,.string ⟨xb.toArray⟩,.slice xAs xsubs.length xcs,.slice xAb xbody.length xcb,.slice xAt xtail.length xct,.slice xAl xlead.length xcl,.string ⟨xtr.toArray⟩,.int .i64 xpos])) (fun _ jv _=>xsubs.length-(intOf jv).toNat)
    case atStart=>exact⟨0,mx,Nat.zero_le _,rfl,rfl,qK (by simp[htEs]),by omega,HB1,B1⟩
    case round=>
     clear B1 HB1;obtain⟨j,my,hj,rfl,rfl,HMy,hmy,HB,B1⟩:=hrel;by_cases hjl:j < xsubs.length
     ·have hjl':(j:Int) < (xsubs.length:Int):=by omega
      obtain⟨bb,off,hA,hbW,hc⟩:=HSx.out.1.at_ hjl;have HTj:=qK (show htEs q ((xsubs.take (j+1)).map plE)=max (htEs q ((xsubs.take j).map plE)) (htE q (plE xsubs[j])) from by
       rw[List.take_succ_eq_append_getElem hjl,List.map_append,List.map_cons,List.map_nil,zA4])
      have HOy:=qK (HOe.out.at_ (List.getElem_mem hjl));have HTy:=qK (HTe.out _ (List.getElem_mem hjl));generalize xsubs[j]=y at hc HTj HOy HTy;have hye:∃ yk yt ym ya yb yAs ycs ysubs yAd ycd ydecls yAt yct ytail ypos,y=.mk yk yt ym ya yb yAs ycs ysubs yAd ycd ydecls yAt yct ytail ypos:=by cases y;exact⟨_,_,_,_,_,_,_,_,_,_,_,_,_,_,_,rfl⟩
      obtain⟨yk,yt,ym,ya,yb,yAs,ycs,ysubs,yAd,ycd,ydecls,yAt,yct,ytail,ypos,rfl⟩:=hye;have c0:=zZ0 HB.out hbW (hc 0 _ rfl);have c1:=zZ0 HB.out hbW (hc 1 _ rfl);have c2:=zZ0 HB.out hbW (hc 2 _ rfl);have c3:=zZ0 HB.out hbW (hc 3 _ rfl);have c4:=zZ0 HB.out hbW (hc 4 _ rfl);have c5:=zZ0 HB.out hbW (hc 5 _ rfl);have c6:=zZ0 HB.out hbW (hc 6 _ rfl);have c7:=zZ0 HB.out hbW (hc 7 _ rfl);have c8:=zZ0 HB.out hbW (hc 8 _ rfl);dsimp only[Nat.add_zero] at c0 c1 c2 c3 c4 c5 c6 c7 c8;have hba:=(Below.refl wr.heap.size wr).alloc qJ (.cells #[.int .i64 yk,.string ⟨yt.toArray⟩,.int .i64 ym,.string ⟨ya.toArray⟩,.string ⟨yb.toArray⟩,.slice yAs ysubs.length ycs,.slice yAd ydecls.length ycd,.slice yAt ytail.length yct,.int .i64 ypos] 67);have B2:=qK (Blk.new wr 67 #[.int .i64 yk,.string ⟨yt.toArray⟩,.int .i64 ym,.string ⟨ya.toArray⟩,.string ⟨yb.toArray⟩,.slice yAs ysubs.length ycs,.slice yAd ydecls.length ycd,.slice yAt ytail.length yct,.int .i64 ypos]);have HB2:=qK (HB.out.trans (hba.mono HB.out.size));have B3:=qK (B1.out.keep hba);go_upto_region 10 with fail
      clear c0 c1 c2 c3 c4 c5 c6 c7 c8 hbW hA hba hc HB B1;obtain⟨gy,hgy⟩:∃ gy,gy=wr.heap.size:=⟨_,rfl⟩;rw[←hgy] at B2 ⊢;generalize wr.alloc (.cells #[.int .i64 yk,.string ⟨yt.toArray⟩,.int .i64 ym,.string ⟨ya.toArray⟩,.string ⟨yb.toArray⟩,.slice yAs ysubs.length ycs,.slice yAd ydecls.length ycd,.slice yAt ytail.length yct,.int .i64 ypos] 67)=wy at B2 B3 HB2 ⊢;clear hgy;obtain⟨e0,e1,e2,e3,e4,e5,e6,e7,e8⟩:=zZ6 B2.out;by_cases hq0:q=0
      ·subst hq0;have hN2:N=1:=by have:=HN.out;omega
       go_wp2;go_roundw
       case rel=>exact⟨j+1,my,by omega,by go_num,rfl,qK (by rw[HTj.out,HMy.out,yG8];simp),by omega,HB2,B3⟩
       case measure=>simp[intOf];omega
      ·obtain⟨z,rfl⟩:∃ z,q=z+1:=⟨q-1,by omega⟩;have cT:=HTy.out z wy qG ((zV8 HB2.out.size).1 _ ((zW2 HB2.out).1 _ HOy.out));simp only[encE] at cT;have hq:((z+1:Nat):Int)=N-1:=by have:=HN.out;omega
       have hN2:1 < N:=by have:=HN.out;omega
       rw[hq] at cT;clear hq;have hle:=xV3 (z+1) (plE (.mk yk yt ym ya yb yAs ycs ysubs yAd ycd ydecls yAt yct ytail ypos));have HMz:=qK (show max (max my (htE (z+1) (plE (.mk yk yt ym ya yb yAs ycs ysubs yAd ycd ydecls yAt yct ytail ypos))+1)) 1=max (max mx 1) (htEs (z+1) ((xsubs.take (j+1)).map plE)+1) from by
        rw[HTj.out];have:=HMy.out;omega)
       generalize htE (z+1) (plE (.mk yk yt ym ya yb yAs ycs ysubs yAd ycd ydecls yAt yct ytail ypos))=hx at cT hle HMz;have hx17:hx+1≤17:=by have:=HN.out;omega
       go_wp2_with fail
       refine cT.mono ?_;rintro r w4 ⟨rfl,hb4⟩;have HB4:=qK (HB2.out.trans (hb4.mono HB2.out.size));have B4:=qK (B3.out.keep hb4);clear cT hb4 e0 e1 e2 e3 e4 e5 e6 e7 e8;have hmc:max (my:Int) ((hx:Int)+1)=((max my (hx+1):Nat):Int):=by omega
       go_wp2;go_roundw
       case rel=>exact⟨j+1,max my (hx+1),by omega,by go_num,by first | rfl | rw[hmc],qK HMz.out,by omega,HB4,B4⟩
       case measure=>simp[intOf];omega
     ·obtain rfl:j=xsubs.length:=by omega
      rw[List.take_length,←zX9] at HMy;have d6:=B1.out.cell 6;have cD:=HTb.out xAb xcb q wr qG ((HSb.out.below HB.out).more HB.out.size) ((zV8 HB.out.size).2.2.2 _ ((zW2 HB.out).2.2.2 _ HOb.out));have hle:=yQ3 q (plDs xbody);have hq:(q:Int)=N-1:=by have:=HN.out;omega
      rw[hq] at cD;clear hq;have HMz:=qK (show max my (htDs q (plDs xbody)+1)=htDs (q+1) ((l.take (i+1)).map plD) from by
       rw[HTk.out,←HM.out];have:=HMy.out;omega)
      generalize htDs q (plDs xbody)=hx at cD hle HMz;have hx17:hx+1≤17:=by have:=HN.out;omega
      go_wp2_with fail
      refine cD.mono ?_;rintro r w4 ⟨rfl,hb4⟩;have HB4:=qK (HB.out.trans (hb4.mono HB.out.size));clear cD hb4 d6;have hmc:max (my:Int) ((hx:Int)+1)=((max my (hx+1):Nat):Int):=by omega
      go_wp2;go_roundw
      case rel=>exact⟨i+1,max my (hx+1),by omega,by go_num,by first | rfl | rw[hmc],qK HMz.out,by omega,HB4⟩
      case measure=>simp[intOf];omega
  ·exact xE
theorem heights:(∀ e,TlOk e)∧(∀ d:DA,(∀ x∈zU3 d,TlOk x)∧DpOk (xV5 d))∧(∀ l:List EA,∀ x∈l,TlOk x)∧∀ l:List DA,∀ d∈l,(∀ x∈zU3 d,TlOk x)∧DpOk (xV5 d):=
 zY9 (fun _ _ _ _ _ _ _ _ _ _ _ _ _ _ _ h1 h2=>yB7 h1 (yW9 h2)) (fun _ _ _ _ _ _ _ _ _ _ _ _ _ _ _ _ _ _ _ h1 h2=>⟨h1,yW9 h2⟩)
  (fun x h=>by cases h) (fun e l h1 h2 x hx=>by
   rcases List.mem_cons.1 hx with rfl | hx
   ·exact h1
   ·exact h2 x hx) (fun x h=>by cases h) (fun e l h1 h2 x hx=>by
   rcases List.mem_cons.1 hx with rfl | hx
   ·exact h1
   ·exact h2 x hx)
set_option maxRecDepth 100000 in
set_option maxHeartbeats 4000000 in
theorem yB8 (e:EA)(w:World)(h:OkA w w.heap.size e):Calls Tryz.prog 94 #[.agg (encE e).toArray] w fun r w'=>r=.returned (.int .i64 (htE 17 (plE e):Nat))∧Below w.heap.size w w':=by
 have hxe:∃ xk xt xm xa xb xAs xcs xsubs xAd xcd xdecls xAt xct xtail xpos,e=.mk xk xt xm xa xb xAs xcs xsubs xAd xcd xdecls xAt xct xtail xpos:=by cases e;exact⟨_,_,_,_,_,_,_,_,_,_,_,_,_,_,_,rfl⟩
 obtain⟨xk,xt,xm,xa,xb,xAs,xcs,xsubs,xAd,xcd,xdecls,xAt,xct,xtail,xpos,rfl⟩:=hxe;have hb:=(Below.refl w.heap.size w).alloc qJ (.cells #[.int .i64 xk,.string ⟨xt.toArray⟩,.int .i64 xm,.string ⟨xa.toArray⟩,.string ⟨xb.toArray⟩,.slice xAs xsubs.length xcs,.slice xAd xdecls.length xcd,.slice xAt xtail.length xct,.int .i64 xpos] 67);have HBx:=qK (Blk.new w 67 #[.int .i64 xk,.string ⟨xt.toArray⟩,.int .i64 xm,.string ⟨xa.toArray⟩,.string ⟨xb.toArray⟩,.slice xAs xsubs.length xcs,.slice xAd xdecls.length xcd,.slice xAt xtail.length xct,.int .i64 xpos]);have HW:=qK hb;have cT:=heights.1 _ 16 _ qG ((zV8 hb.size).1 _ ((zW2 hb).1 _ h));clear hb h;simp only[encE] at cT ⊢;have h17:((16+1:Nat):Int)=17:=rfl;rw[h17] at cT;clear h17;go_enter Tryz.func94,Tryz.ntmps94
 go_upto_region 1 with fail
 generalize w.alloc (.cells #[.int .i64 xk,.string ⟨xt.toArray⟩,.int .i64 xm,.string ⟨xa.toArray⟩,.string ⟨xb.toArray⟩,.slice xAs xsubs.length xcs,.slice xAd xdecls.length xcd,.slice xAt xtail.length xct,.int .i64 xpos] 67)=w1 at HBx HW cT ⊢;obtain⟨e0,e1,e2,e3,e4,e5,e6,e7,e8⟩:=zZ6 HBx.out;go_wp2_with fail
 refine cT.mono ?_;rintro r w4 ⟨rfl,hb4⟩;have HB4:=qK (HW.out.trans (hb4.mono HW.out.size));clear cT hb4 e0 e1 e2 e3 e4 e5 e6 e7 e8;go_wp2;go_ret;exact⟨rfl,HB4.out⟩
def atOb (b:Nat)(f:Ob→Ob)(o:Ob):Ob:=if o.blk=b then f o else o
def actO (o:Ob):Ob:={o with act:=true}
def yQ4 (e:EA)(o:Ob):Ob:={o with act:=false,done:=true,ex:=e,hgt:=(htE 17 (plE e):Nat)}
def RS.at_ (ρ:RS)(b:Nat)(f:Ob→Ob):RS:={ρ with objs:=ρ.objs.map (atOb b f)}
section
variable {X:Type}{R:RF}{C:Clo X}{n s:Nat}{σ:GS X}{Im:Nat→Prop}{w w':World}
theorem St.turn2 (h:St R C n s σ Im w){ρ':RS}{n' s':Nat}(ha:ρ'.all=σ.ρ.all){g:Ob→Ob}(hob:ρ'.objs=σ.ρ.objs.map g)(hg:∀ o,(g o).blk=o.blk∧(g o).d=o.d∧(g o).sc=o.sc∧(g o).file=o.file)(hex:∀ o∈σ.ρ.objs,OkI Im w' (g o).ex)
  (hw:wObs ρ'.objs+s'≤wObs σ.ρ.objs+s)(hn:wObs ρ'.objs+s'≤n'){M:Nat→Prop}(hk:Kp M w w')(hM:∀ b,M b→b=R.r∨b∈R.uB∨∃ o∈σ.ρ.objs,o.blk=b)(hrs:RsAt R ρ' σ.av w'.heap.size w') :
  St R C n' s' {σ with ρ:=ρ'} Im w'∧Sp (zn R C σ Im) w (zn R C {σ with ρ:=ρ'} Im) w'∧Gr w σ {σ with ρ:=ρ'}:=by
 have hblk:∀ b,(∃ o∈ρ'.objs,o.blk=b)↔∃ o∈σ.ρ.objs,o.blk=b:=fun b=>by
  rw[hob];constructor
  ·exact xN
  ·exact xV
 have hMM:∀ b,M b→(zn R C σ Im).Mut b:=fun b hb=>by
  rcases hM b hb with h1 | h1 | h1
  ·exact .inl h1
  ·exact .inr (.inl h1)
  ·exact .inr (.inr (.inl h1))
 have hMu:∀ b,(zn R C {σ with ρ:=ρ'} Im).Mut b↔(zn R C σ Im).Mut b:=fun b=>by
  show (b=R.r∨b∈R.uB∨(∃ o∈ρ'.objs,o.blk=b)∨σ.av.ownBlock=some b∨C.M σ.x b)↔(b=R.r∨b∈R.uB∨(∃ o∈σ.ρ.objs,o.blk=b)∨σ.av.ownBlock=some b∨C.M σ.x b);rw[hblk b]
 have hiN:=h.stay hMM;have hs:=hk.size;have hoB:∀ {b:Nat},(∀ o∈σ.ρ.objs,o.blk≠b)→∀ o∈ρ'.objs,o.blk≠b:=fun {b} hn o ho e=>by
  obtain⟨y,hy,e2⟩:=(hblk b).1 ⟨o,ho,e⟩;exact hn y hy e2
 have hok:(zn R C {σ with ρ:=ρ'} Im).Ok w':=⟨fun b hb=>⟨Nat.lt_of_lt_of_le (h.zo.mu b ((hMu b).1 hb)).1 hs,(h.zo.mu b ((hMu b).1 hb)).2⟩,fun b hb=>Nat.lt_of_lt_of_le (h.zo.im b hb) hs⟩;have hgr:Gr w σ {σ with ρ:=ρ'}:=⟨fun o ho=>(hblk _).2 ⟨o,ho,rfl⟩,fun _ _=>rfl⟩;refine⟨⟨hrs,?_,C.keep h.cl hk fun b hb hm=>?_,hok,fun b hb=>?_,fun b hb=>?_,h.im,fun o ho=>?_,?_,hn⟩,⟨hk.mono hMM,fun b hb=>.inl ((hMu b).1 hb),fun _ h=>h,fun _ h=>.inl h,hok⟩,hgr⟩
 ·exact vV
 ·exact xD
 ·obtain⟨h1,h2,h3,h4⟩:=h.cm b hb;exact⟨h1,h2,hoB h3,h4⟩
 ·obtain⟨h1,h2,h3⟩:=h.am b hb;exact⟨h1,h2,hoB h3⟩
 ·have ho':o∈σ.ρ.objs.map g:=hob▸ho;obtain⟨y,hy,rfl⟩:=List.mem_map.1 ho';obtain⟨g1,g2,g3,g4⟩:=hg y;obtain⟨l1,l2,l3,l4,l5,l6,_⟩:=(h.lo y hy).kept hk hiN (fun _ h=>h);exact⟨by rw[g2];exact l1,by rw[g2];exact l2,by rw[g3];exact l3,by rw[g3];exact EnvK.gr l4 hgr,by rw[g2,g3];exact l5,by rw[g4];exact l6,hex y hy⟩
 ·have:=h.bu;show C.ct σ.x+(ρ'.all.length+wObs ρ'.objs+s')≤_;rw[ha];omega
theorem ObsAt.at_ob {obs:List Ob}{B:Nat}(h:ObsAt obs B w){b:Nat}{f:Ob→Ob}(hf:∀ o,(f o).blk=o.blk)(hk:Kp (· = b) w w')(hb:∀ o∈obs,o.blk=b→Blk w' b 102 (obV (f o))):ObsAt (obs.map (atOb b f)) B w':=by
 have hblk:∀ x:Ob,(atOb b f x).blk=x.blk:=fun x=>by unfold atOb;split;exact hf x;rfl
 refine⟨fun x hx=>?_,fun x hx=>?_,?_⟩
 ·obtain⟨y,hy,rfl⟩:=List.mem_map.1 hx;rw[hblk];by_cases hyb:y.blk=b
  ·have e:atOb b f y=f y:=if_pos hyb;rw[e,hyb];exact hb y hy hyb
  ·have e:atOb b f y=y:=if_neg hyb;rw[e];exact hk.blk (h.at_ y hy) hyb
 ·obtain⟨y,hy,rfl⟩:=List.mem_map.1 hx;rw[hblk];exact h.lt y hy
 ·have e:(obs.map (atOb b f)).map (·.blk)=obs.map (·.blk):=by
   rw[List.map_map];exact List.map_congr_left fun x _=>hblk x
  rw[e];exact h.nd
theorem zE6 {obs:List Ob}(hn:(obs.map (·.blk)).Nodup){o o':Ob}(ho:o∈obs)(ho':o'∈obs)(e:o.blk=o'.blk):o=o':=by
 induction obs with
 | nil=>cases ho
 | cons x l ih=>
   rw[List.map_cons,List.nodup_cons] at hn;rcases List.mem_cons.1 ho with h1 | h1
   ·rcases List.mem_cons.1 ho' with h2 | h2
    ·rw[h1,h2]
    ·exact absurd (List.mem_map.2 ⟨o',h2,by rw[←e,h1]⟩) hn.1
   ·rcases List.mem_cons.1 ho' with h2 | h2
    ·exact absurd (List.mem_map.2 ⟨o,h1,by rw[e,h2]⟩) hn.1
    ·exact ih hn.2 h1 h2
end
theorem wOb_act (o:Ob):wOb (actO o)=0:=by unfold wOb actO;simp
theorem wOb_done (e:EA)(o:Ob):wOb (yQ4 e o)=0:=by unfold wOb yQ4;simp
theorem yI0 {b:Nat}{f:Ob→Ob}(hf:∀ o,wOb (f o)=0):∀ l:List Ob,wObs (l.map (atOb b f))≤wObs l
 | []=>Nat.le_refl _
 | x ::l=>by
   have h:=yI0 (b:=b) hf l;unfold wObs at *;rw[List.map_cons,List.map_cons,List.map_cons,List.sum_cons,List.sum_cons];have:wOb (atOb b f x)≤wOb x:=by
    unfold atOb;split
    ·rw[hf];exact Nat.zero_le _
    ·exact Nat.le_refl _
   omega
theorem zA5 {b:Nat}{f:Ob→Ob}(hf:∀ o,wOb (f o)=0):∀ {l:List Ob}{o:Ob},o∈l→o.blk=b→wObs (l.map (atOb b f))+wOb o≤wObs l
 | x ::l,o,ho,hb=>by
   have h1:=yI0 (b:=b) hf l;unfold wObs at *;rw[List.map_cons,List.map_cons,List.map_cons,List.sum_cons,List.sum_cons];rcases List.mem_cons.1 ho with rfl | ho
   ·have:wOb (atOb b f o)=0:=by unfold atOb;rw[if_pos hb,hf]
    omega
   ·have h2:=zA5 hf ho hb;unfold wObs at h2;have:wOb (atOb b f x)≤wOb x:=by
     unfold atOb;split
     ·rw[hf];exact Nat.zero_le _
     ·exact Nat.le_refl _
    omega
def ResO {X:Type}(R:RF)(U:UseR X)(σ:GS X)(b:Nat)(σ':GS X)(e':EA):Prop:=
 ∃ o∈σ.ρ.objs,o.blk=b∧
   ((o.act=true∧σ'= {σ with ρ:={σ.ρ with cyc:=true}}∧e'=zK5)∨
    (o.act=false∧o.done=true∧σ'=σ∧e'=o.ex)∨
    (o.act=false∧o.done=false∧∃ e0 σ1,zU3 o.d=[e0]∧VisE R U e0 (σ.en o.sc) [] o.file {σ with ρ:=σ.ρ.at_ b actO} σ1 e'∧σ'= {σ1 with ρ:=σ1.ρ.at_ b (yQ4 e')}))
section
variable {X:Type}{R:RF}{C:Clo X}{n s:Nat}{σ:GS X}{Im:Nat→Prop}{w:World}
theorem St.cyc (h:St R C n s σ Im w)(b:Bool):St R C n s {σ with ρ:={σ.ρ with cyc:=b}} Im (w.setCell ⟨R.r,7,none⟩ (.bool b))∧Sp (zn R C σ Im) w (zn R C {σ with ρ:={σ.ρ with cyc:=b}} Im) (w.setCell ⟨R.r,7,none⟩ (.bool b))∧Gr w σ {σ with ρ:={σ.ρ with cyc:=b}}:=by
 have hk:Kp (· = R.r) w (w.setCell ⟨R.r,7,none⟩ (.bool b)):=(Kp.refl (· = R.r) w).setCell (p:=⟨R.r,7,none⟩) rfl _;refine h.turn (ρ':={σ.ρ with cyc:=b}) rfl (SameOb.refl _) hk (fun _ hb=>.inl hb) (h.cellR hk (fun _ h=>.inl h) rfl rfl ?_);have:=h.rs.rc.set_ 7 (.bool b);simpa using this
theorem St.at_ (h:St R C n s σ Im w){w':World}{b:Nat}{f:Ob→Ob}{n' s':Nat}(hf:∀ o,(f o).blk=o.blk∧(f o).d=o.d∧(f o).sc=o.sc∧(f o).file=o.file)(hex:∀ o∈σ.ρ.objs,o.blk=b→OkI Im w' (f o).ex)
  (hmem:∃ o∈σ.ρ.objs,o.blk=b)(hw:wObs (σ.ρ.at_ b f).objs+s'≤wObs σ.ρ.objs+s)(hn:wObs (σ.ρ.at_ b f).objs+s'≤n')(hk:Kp (· = b) w w')(hb:∀ o∈σ.ρ.objs,o.blk=b→Blk w' b 102 (obV (f o))) :
  St R C n' s' {σ with ρ:=σ.ρ.at_ b f} Im w'∧Sp (zn R C σ Im) w (zn R C {σ with ρ:=σ.ρ.at_ b f} Im) w'∧Gr w σ {σ with ρ:=σ.ρ.at_ b f}:=by
 obtain⟨o0,ho0,hob0⟩:=hmem;have hB0:=h.rs.ob.at_ o0 ho0;rw[hob0] at hB0;have hiN:∀ c,Im c→¬ c=b:=h.stay fun c hc=>.inr (.inr (.inl ⟨o0,ho0,by rw[hob0];exact hc.symm⟩));refine h.turn2 (g:=atOb b f) rfl rfl (fun o=>?_) (fun o ho=>?_) hw hn hk (fun c hc=>.inr (.inr ⟨o0,ho0,by rw[hob0];exact hc.symm⟩)) ?_
 ·unfold atOb;split
  ·exact hf o
  ·exact⟨rfl,rfl,rfl,rfl⟩
 ·unfold atOb;split
  ·rename_i e;exact hex o ho e
  ·exact((h.lo o ho).kept hk hiN (fun _ h=>h)).ex
 ·have hs:=hk.size;exact⟨hk.blk h.rs.rc (zQ1 h.rs.rc hB0 (by decide)),Nat.lt_of_lt_of_le h.rs.rl hs,(h.rs.mp.keptA hk (imN h.im.1 hiN) (imN h.im.2.1 hiN) (fun b hb=>hiN b (h.im.2.2 b hb)) (fun c hc e=>xY9 hB0 h.rs.mp.mu c hc e)).more hs,
   (h.rs.ob.at_ob (fun o=>(hf o).1) hk hb).more hs⟩
end
def RsvOk {X:Type}(R:RF)(C:Clo X)(n:Nat)(U:UseR X):Prop:=
 ∀ (σ:GS X) (Im:Nat→Prop) (w:World) (s b:Nat),St R C n s σ Im w→(∃ o∈σ.ρ.objs,o.blk=b)→
   Calls Tryz.prog 60 #[.pointer (some ⟨R.r,0,none⟩),.pointer (some ⟨b,0,none⟩)] w (RetE R C n s σ Im w (ResO R U σ b))
end Go.Proofs.YtdgehhgjgifikaaGreatDoor
