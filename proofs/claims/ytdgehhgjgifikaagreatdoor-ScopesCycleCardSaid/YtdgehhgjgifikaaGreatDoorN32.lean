/- What the claim needs of:ZR ZT. -/
import Derived.Test.YtdgehhgjgifikaaGreatDoorN31
import Derived.Test.YtdgehhgjgifikaaGreatDoorN28
import Derived.Test.YtdgehhgjgifikaaGreatDoorN29
namespace Go.Proofs.YtdgehhgjgifikaaGreatDoor
open Go.RowKit Go.Sort
def AllK (ρ:RS):Prop:=∀ b∈ρ.all,∃ o∈ρ.objs,o.blk=b
theorem fL_blk {l:List (Tx × Nat)}{s:Tx}{v:Value}(h:fL l s=some v):∃ b,v=lptr b∧(s,b)∈l:=by
 unfold fL at h
 cases hl:zV9 l s with
 | none=>rw[hl] at h;cases h
 | some b=>
   rw[hl] at h
   simp only[Option.map_some,Option.some.injEq] at h
   exact⟨b,h.symm,zR1 hl⟩
theorem yI5 {l:List (Tx × Nat)}{gs:List Nat}(h:ValsOf (fL l) (gs.map lptr)):∀ b∈gs,∃ s,(s,b)∈l:=fun b hb=>by
 obtain⟨ks,_,_,_,h4⟩:=h
 have h5:some (lptr b)∈(gs.map lptr).map some:=List.mem_map.2 ⟨_,List.mem_map.2 ⟨b,hb,rfl⟩,rfl⟩
 rw[h4] at h5
 obtain⟨s,_,h6⟩:=List.mem_map.1 h5
 obtain⟨b',e,h7⟩:=fL_blk h6
 unfold lptr at e
 injection e with e
 injection e with e
 injection e with e
 subst e
 exact⟨s,h7⟩
theorem xX8 (file:Nat)(s:Tx)(x:Int × Int × Option Nat){r:RS}(h:AllK r):AllK (zU5 file s x r):=by
 unfold zU5
 split
 ·rename_i b hb
  intro c hc
  obtain⟨o,ho,e⟩:=h c hc
  refine⟨zR2 b o,List.mem_map.2 ⟨o,ho,rfl⟩,?_⟩
  rw[←e]
  unfold zR2
  split <;> rfl
 ·split
  ·exact h
  ·exact h
theorem dcl_all {X:Type}{decls:List DA}{file:Nat}{env env':List ScA}{σ σ':GS X}(hd:Dcl decls file env σ σ' env')(h:AllK σ.ρ):AllK σ'.ρ:=by
 obtain⟨sB,bF,bL,bs,gs,av,hlen,_,_,hv,rfl⟩:=hd
 intro c hc
 rcases List.mem_append.1 hc with hc | hc
 ·obtain⟨o,ho,e⟩:=h c hc
  exact⟨o,List.mem_append_left _ ho,e⟩
 ·obtain⟨s,hs⟩:=yI5 hv c hc
  have hb:c∈bs:=(List.of_mem_zip hs).2
  obtain⟨i,hi,rfl⟩:=List.getElem_of_mem hb
  refine⟨zL4 bs[i] sB file zO0 ((zZ7 decls)[i]'(by omega)),List.mem_append_right _ ?_,rfl⟩
  unfold zW8
  refine List.mem_map.2 ⟨(bs[i],(zZ7 decls)[i]'(by omega)),?_,rfl⟩
  rw[List.mem_iff_getElem]
  exact⟨i,by rw[List.length_zip];omega,by rw[List.getElem_zip]⟩
theorem visK (R:RF):(∀ e,∀ env lp file (σ σ':GS Unit) e',VisE R U0 e env lp file σ σ' e'→AllK σ.ρ→AllK σ'.ρ)∧(∀ d,∀ env lp file (σ σ':GS Unit) d',VisD R U0 d env lp file σ σ' d'→AllK σ.ρ→AllK σ'.ρ)∧
  (∀ l,∀ i nm env lp file (σ σ':GS Unit) l',zW1 R U0 l i nm env lp file σ σ' l'→AllK σ.ρ→AllK σ'.ρ)∧∀ l,∀ env lp file (σ σ':GS Unit) l',zX7 R U0 l env lp file σ σ' l'→AllK σ.ρ→AllK σ'.ρ:=
 zX4 (fun k t m a b As cs subs Ad cd decls At ct tail pos h1 h2 env lp file σ σ' e' h hA=>by
   rw[VisE] at h
   rcases h with ⟨rfl,rfl,_⟩ | ⟨hk,σ1,subs',σ2,env2,decls',As',cs',Ad',cd',At',ct',hs,hd,hds,_⟩
   ·exact xX8 _ _ _ hA
   ·refine h2 _ _ _ _ _ _ hds ?_
    rcases hd with ⟨_,hd⟩ | ⟨_,rfl,_⟩
    ·exact dcl_all hd (h1 _ _ _ _ _ _ _ _ hs hA)
    ·exact h1 _ _ _ _ _ _ _ _ hs hA)
  (fun k p l a b As cs subs Ab cb body At ct tail Al cl lead tr pos h1 h2 env lp file σ σ' d' h hA=>by
   rw[VisD] at h
   obtain⟨σ1,subs',body',As',cs',Ab',cb',At',ct',Al',cl',hs,hb,_⟩:=h
   exact h2 _ _ _ _ _ _ hb (h1 _ _ _ _ _ _ _ _ hs hA))
  (fun i nm env lp file σ σ' l' h hA=>by
   rw[zW1] at h
   obtain⟨rfl,_⟩:=h
   exact hA)
  (fun e l h1 h2 i nm env lp file σ σ' l' h hA=>by
   rw[zW1] at h
   obtain⟨σ1,e1,r1,he,hl,_⟩:=h
   exact h2 _ _ _ _ _ _ _ _ hl (h1 _ _ _ _ _ _ he hA))
  (fun env lp file σ σ' l' h hA=>by
   rw[zX7] at h
   obtain⟨rfl,_⟩:=h
   exact hA)
  (fun d l h1 h2 env lp file σ σ' l' h hA=>by
   rw[zX7] at h
   obtain⟨σ1,d1,r1,hd,hl,_⟩:=h
   exact h2 _ _ _ _ _ _ hl (h1 _ _ _ _ _ _ hd hA))
theorem visFsK {R:RF}{env:List ScA}:∀ {fs:List FA}{i:Nat}{σ σ':GS Unit}{rs:List (List DA)},zO2 R U0 env i fs σ σ' rs→AllK σ.ρ→AllK σ'.ρ
 | [],i,σ,σ',rs,⟨h,_⟩,hA=>by subst h;exact hA
 | f ::fs,i,σ,σ',rs,⟨σ1,d1,r1,h1,h2,_⟩,hA=>visFsK h2 ((visK R).2.2.2 _ _ _ _ _ _ _ h1 hA)
theorem root_all {p:PA}{R:RF}{σ0:GS Unit}{env:List ScA}(h:Root p R σ0 env):AllK σ0.ρ:=fun b hb=>by
 obtain⟨s,hs⟩:=yI5 h.al b hb
 have hb:=(List.of_mem_zip hs).2
 obtain⟨o,ho,e⟩:=List.mem_map.1 hb
 exact⟨o,ho,e⟩
theorem yD7 {p:PA}{R:RF}{σ0 σ:GS Unit}{env:List ScA}{rs:List (List DA)}(h:Root p R σ0 env)(hV:zO2 R U0 env 0 p.files σ0 σ rs):AllK σ.ρ:=visFsK hV (root_all h)
def posD (d:DA):Int:=(plD d).pos
def obDf (o:Ob):Df:=⟨o.file,posD o.d,lblD o.d,2⟩
def unB (objs:List Ob)(b:Nat):List Df:=match objs.find? fun o=>decide (o.blk=b) with
 | some o=>if o.used=true then[] else[obDf o]
 | none=>[]
theorem unB_at {objs:List Ob}{b:Nat}(h:∃ o∈objs,o.blk=b):∃ o∈objs,o.blk=b∧unB objs b=if o.used=true then[] else[obDf o]:=by
 unfold unB
 cases hf:objs.find? fun o=>decide (o.blk=b) with
 | some o=>
   have:=List.find?_some hf
   exact⟨o,List.mem_of_find?_eq_some hf,of_decide_eq_true this,rfl⟩
 | none=>
   obtain⟨o,ho,e⟩:=h
   have:=List.find?_eq_none.1 hf o ho
   exact absurd (decide_eq_true e) this
theorem unB_len (objs:List Ob)(b:Nat):(unB objs b).length≤1:=by
 unfold unB
 split
 ·split <;> simp
 ·simp
def unA (objs:List Ob)(all:List Nat):List Df:=all.flatMap (unB objs)
theorem yK2 (objs:List Ob):∀ all,(unA objs all).length≤all.length
 | []=>Nat.le_refl _
 | b ::l=>by
   have h1:=yK2 objs l
   have h2:=unB_len objs b
   unfold unA at *
   rw[List.flatMap_cons,List.length_append,List.length_cons]
   omega
theorem unA_snoc (objs:List Ob)(l:List Nat)(b:Nat):unA objs (l++ [b])=unA objs l++unB objs b:=by simp[unA]
def imp1 (us:List (List Tx))(i:Nat)(l:List Imp):List Df:=(l.filter fun x=>!decide (x.name∈us.getD i [])).map fun x=>⟨i,x.pos,x.name,4⟩
def impU (us:List (List Tx)):Nat→List FA→List Df
 | _,[]=>[]
 | i,f ::r=>imp1 us i f.imps++impU us (i+1) r
theorem yO6 (us:List (List Tx)):∀ (l:List FA)(j:Nat)(f:FA),impU us j (l++ [f])=impU us j l++imp1 us (j+l.length) f.imps
 | [],j,f=>by simp[impU]
 | x ::l,j,f=>by
   have e:j+1+l.length=j+(x ::l).length:=by rw[List.length_cons];omega
   rw[List.cons_append,impU,impU,yO6 us l (j+1) f,List.append_assoc,e]
theorem xX9 (us:List (List Tx))(i:Nat)(l:List Imp)(x:Imp):imp1 us i (l++ [x])=imp1 us i l++if x.name∈us.getD i [] then[] else[⟨i,x.pos,x.name,4⟩]:=by
 unfold imp1
 generalize us.getD i []=u
 rw[List.filter_append,List.map_append]
 congr 1
 by_cases h:x.name∈u
 ·rw[if_pos h,List.filter_cons_of_neg (by simp[h])];rfl
 ·rw[if_neg h,List.filter_cons_of_pos (by simp[h])];rfl
def nI (l:List FA):Nat:=(l.map fun f=>f.imps.length).sum
theorem yI6 (us:List (List Tx))(i:Nat)(l:List Imp):(imp1 us i l).length≤l.length:=by
 unfold imp1
 rw[List.length_map]
 exact List.length_filter_le _ _
theorem yS1 (us:List (List Tx)):∀ (l:List FA)(j:Nat),(impU us j l).length≤nI l
 | [],_=>Nat.le_refl _
 | f ::l,j=>by
   have h1:=yS1 us l (j+1)
   have h2:=yI6 us j f.imps
   unfold nI at *
   rw[impU,List.length_append,List.map_cons,List.sum_cons]
   omega
theorem nI_take (l:List FA)(i:Nat)(h:i < l.length):nI (l.take i)+l[i].imps.length≤nI l:=by
 have e:nI (l.take (i+1))+nI (l.drop (i+1))=nI l:=by
  unfold nI
  rw[←List.sum_append,←List.map_append,List.take_append_drop]
 have e2:nI (l.take (i+1))=nI (l.take i)+l[i].imps.length:=by
  unfold nI
  rw[List.take_succ_eq_append_getElem h,List.map_append,List.sum_append]
  simp
 omega
def srtD (l:List Df):List Df:=l.mergeSort fun x y=>!befD y x
def xW0 (ds:List Df)(err:Int)(w:World)(e:Ending)(w':World):Prop:=
 ∃ A c,e=.returned (.tuple #[.slice A ds.length c,.int .i64 err])∧Sl w' w'.heap.size 4 zJ2 A ds∧ds.length≤1099511627776∧Below w.heap.size w w'
theorem elDef:ElT Tryz.prog 35 42 4 40:=ElT.mk_ (z:=.agg #[.int .i64 0,.int .i64 0,.string ByteArray.empty,.int .i64 0]) Tryz.underlying35 (by kernel_rfl) (by kernel_rfl) (by decide)
theorem row_appD {w:World}{base n:Nat}{v:Value}{L:List Df}(x:Df)(hown:w.ownsRow base 42 4 v n (L.flatMap zJ2))(hb:base≤w.heap.size)(hn:n≤1099511627776) :
  ∃ A7 c7 w7,(Builtin.append_ #[35,35] 35 #[v,.slice (some ⟨w.heap.size,0,none⟩) 1 1]).run Tryz.prog (w.alloc (.cells #[.int .i64 x.file,.int .i64 x.pos,.string ⟨x.name.toArray⟩,.int .i64 x.kind] 42))=.ok (.slice A7 (n+1) c7) w7∧
    w7.ownsRow base 42 4 (.slice A7 (n+1) c7) (n+1) ((L++ [x]).flatMap zJ2)∧Below base w w7:=by
 have hA:Below w.heap.size w (w.alloc (.cells #[.int .i64 x.file,.int .i64 x.pos,.string ⟨x.name.toArray⟩,.int .i64 x.kind] 42)):=(Below.refl _ _).alloc (Nat.le_refl _) _
 have hrow:=World.ownsRow.alloc hown (.cells #[.int .i64 x.file,.int .i64 x.pos,.string ⟨x.name.toArray⟩,.int .i64 x.kind] 42)
 obtain⟨ht,hsz,i,z,hi,hz,hs,hby,hzs⟩:=elDef
 have hsrc:=Src.lit w 4 42 #[.int .i64 x.file,.int .i64 x.pos,.string ⟨x.name.toArray⟩,.int .i64 x.kind] 1 rfl
 obtain⟨ad,hE,hc⟩:=hsrc.2 (by decide)
 obtain⟨v',w',hr,h2,h3,h4,h5⟩:=run_append_own_at (P:=Tryz.prog) _ base 35 35 42 i z 4 40 ht hi hz hs hby hzs hsz v n _ hrow ad 1 1 [.int .i64 x.file,.int .i64 x.pos,.string ⟨x.name.toArray⟩,.int .i64 x.kind] hsrc.1 hc (by simp[Value.oneCell']) (by simp only[maxLen];omega) (by omega) (by simp;omega)
 obtain⟨A7,c7,rfl⟩:=zV2 h2
 refine⟨A7,c7,w',?_,?_,?_⟩
 ·rw[hE];exact hr
 ·rw[List.flatMap_append]
  exact h2
 ·exact(hA.mono hb).trans ((Below.refl _ _).grown h3 (by simp;omega) (fun k hk=>(hrow.lt k hk).1))
theorem obC {w:World}{o:Ob}(h:Blk w o.blk 102 (obV o)):w.cell? ⟨o.blk,2,none⟩=some (.string ⟨(lblD o.d).toArray⟩)∧w.cell? ⟨o.blk,10,none⟩=some (.int .i64 (posD o.d))∧w.cell? ⟨o.blk,12,none⟩=some (.int .i64 (o.file:Nat))∧w.cell? ⟨o.blk,13,none⟩=some (.bool o.used):=by
 obtain⟨b,d,sc,file,used,act,hgt,ex,done⟩:=o
 cases d
 cases ex
 exact⟨h.cell 2,h.cell 10,h.cell 12,h.cell 13⟩
mutual
def htE:Nat→E→Nat
 | n,.mk _ _ _ _ _ subs decls _ _=>if n=0 then 0 else min (max (htEs (n-1) subs) (htDs (n-1) decls)+1) n
def htEs:Nat→List E→Nat
 | _,[]=>0
 | n,x ::l=>max (htE n x) (htEs n l)
def htD:Nat→D→Nat
 | n,.mk _ _ _ _ _ subs body _ _ _ _=>if n=0 then 0 else max (htEs (n-1) subs) (htDs (n-1) body)+1
def htDs:Nat→List D→Nat
 | _,[]=>0
 | n,x ::l=>max (htD n x) (htDs n l)
end
theorem yI7:∀ e,htE 0 e=0
 | .mk ..=>by rw[htE];rfl
theorem htD_zero:∀ d,htD 0 d=0
 | .mk ..=>by rw[htD];rfl
theorem yO7:∀ l,htDs 0 l=0
 | []=>rfl
 | x ::l=>by rw[htDs,htD_zero,yO7 l];rfl
theorem zB3 (n:Nat):∀ (l:List E)(x:E),htEs n (l++ [x])=max (htEs n l) (htE n x)
 | [],x=>by rw[List.nil_append,htEs,htEs];exact Nat.max_comm _ _
 | y ::l,x=>by rw[List.cons_append,htEs,htEs,zB3 n l x,Nat.max_assoc]
theorem yO8 (n:Nat):∀ (l:List D)(x:D),htDs n (l++ [x])=max (htDs n l) (htD n x)
 | [],x=>by rw[List.nil_append,htDs,htDs];exact Nat.max_comm _ _
 | y ::l,x=>by rw[List.cons_append,htDs,htDs,yO8 n l x,Nat.max_assoc]
theorem xW1:∀ (n:Nat)(e:E),htE n e≤n
 | n,.mk ..=>by
   rw[htE]
   split
   ·omega
   ·exact Nat.min_le_right _ _
theorem xW2 (n:Nat):∀ l,htEs n l≤n
 | []=>Nat.zero_le _
 | x ::l=>by rw[htEs];exact Nat.max_le.2 ⟨xW1 n x,xW2 n l⟩
mutual
theorem htD_le:∀ (n:Nat)(d:D),htD n d≤n
 | n,.mk k p l a b subs body tail lead trail pos=>by
   rw[htD]
   split
   ·omega
   ·have h1:=xW2 (n-1) subs
    have h2:=yS2 (n-1) body
    omega
theorem yS2:∀ (n:Nat)(l:List D),htDs n l≤n
 | _,[]=>Nat.zero_le _
 | n,x ::l=>by rw[htDs];exact Nat.max_le.2 ⟨htD_le n x,yS2 n l⟩
end
def xW3:DA→List DA
 | .mk _ _ _ _ _ _ _ _ _ _ body _ _ _ _ _ _ _ _=>body
theorem yI8 {w:World}{B:Nat}:∀ {l:List DA}(_:OkAds w B l){d:DA}(_:d∈l),OkAd w B d
 | _ ::_,h,_,he=>by
   rcases List.mem_cons.1 he with rfl | he
   ·exact h.1
   ·exact yI8 h.2 he
def TlOk (e:EA):Prop:=∀ (n:Nat)(w:World),n≤16→OkA w w.heap.size e→
 Calls Tryz.prog 133 #[.agg (encE e).toArray,.int .i64 ((n+1:Nat):Int)] w fun r w'=>r=.returned (.int .i64 (htE (n+1) (plE e):Nat))∧Below w.heap.size w w'
def DpOk (l:List DA):Prop:=∀ (A:Option Addr)(c n:Nat)(w:World),n≤17→SlN w w.heap.size 11 encD A l→OkAds w w.heap.size l→
 Calls Tryz.prog 164 #[.slice A l.length c,.int .i64 (n:Nat)] w fun r w'=>r=.returned (.int .i64 (htDs n (plDs l):Nat))∧Below w.heap.size w w'
set_option maxRecDepth 100000 in
set_option maxHeartbeats 4000000 in
theorem yD8 {k:Int}{t:Tx}{m:Int}{a b:Tx}{As:Option Addr}{cs:Nat}{subs:List EA}{Ad:Option Addr}{cd:Nat}{decls:List DA}{At:Option Addr}{ct:Nat}{tail:List Tx}{pos:Int}(hE:∀ x∈subs,TlOk x)(hD:DpOk decls):TlOk (.mk k t m a b As cs subs Ad cd decls At ct tail pos):=by
 intro n w hn hOk
 have hb:=(Below.refl w.heap.size w).alloc (Nat.le_refl _) (.cells #[.int .i64 k,.string ⟨t.toArray⟩,.int .i64 m,.string ⟨a.toArray⟩,.string ⟨b.toArray⟩,.slice As subs.length cs,.slice Ad decls.length cd,.slice At tail.length ct,.int .i64 pos] 67)
 have HBx:=Lib.hid (Blk.new w 67 #[.int .i64 k,.string ⟨t.toArray⟩,.int .i64 m,.string ⟨a.toArray⟩,.string ⟨b.toArray⟩,.slice As subs.length cs,.slice Ad decls.length cd,.slice At tail.length ct,.int .i64 pos])
 have HW:=Lib.hid hb
 have hO1:=(zX8 hb).1 _ hOk
 rw[OkA] at hO1
 have HS:=Lib.hid ((hO1.2.1.more hb.size))
 have HOs:=Lib.hid ((zW9 hb.size).2.2.1 _ hO1.2.2.1)
 have HSd:=Lib.hid ((hO1.2.2.2.1.more hb.size))
 have HOd:=Lib.hid ((zW9 hb.size).2.2.2 _ hO1.2.2.2.2.1)
 have hsl:=hO1.2.1.2
 have HT:=Lib.hid hE
 have HDp:=Lib.hid hD
 have hre:htE (n+1) (plE (.mk k t m a b As cs subs Ad cd decls At ct tail pos))=min (max (htEs n (plEs subs)) (htDs n (plDs decls))+1) (n+1):=by
  rw[plE,htE,if_neg (by omega)]
  rfl
 rw[hre]
 obtain⟨N,hN⟩:∃ N:Int,N=((n+1:Nat):Int):=⟨_,rfl⟩
 rw[←hN]
 have hN17:N≤17:=by omega
 have hN0:1≤N:=by omega
 have HN:=Lib.hid hN
 clear hN
 clear hb hO1 hOk hE hD hre
 simp only[encE]
 go_enter Tryz.func133,Tryz.ntmps133
 go_upto_region 2 with fail
 generalize hw1:w.alloc (.cells #[.int .i64 k,.string ⟨t.toArray⟩,.int .i64 m,.string ⟨a.toArray⟩,.string ⟨b.toArray⟩,.slice As subs.length cs,.slice Ad decls.length cd,.slice At tail.length ct,.int .i64 pos] 67)=w1 at HBx HW HS HOs HSd HOd ⊢
 clear hw1
 have HBl:=Lib.hid (show w.heap.size < w1.heap.size from HBx.out.lt)
 obtain⟨e0,e1,e2,e3,e4,e5,e6,e7,e8⟩:=zZ6 HBx.out
 go_upto_region 3 with fail
 clear e0 e1 e2 e3 e4 e5 e6 e7 e8
 go_loopw [5,11] (fun vv iv wq=>∃ (i mx:Nat),i≤subs.length∧iv=.int .i64 (i:Nat)∧vv=.int .i64 (mx:Nat)∧Hid (mx=htEs n ((subs.take i).map plE))∧mx≤17∧Hid (Below w1.heap.size w1 wq)) (fun _ iv _=>subs.length-(intOf iv).toNat)
 case atStart=>exact⟨0,0,Nat.zero_le _,rfl,rfl,Lib.hid rfl,by omega,Lib.hid (Below.refl _ _)⟩
 case round=>
  obtain⟨i,mx,hi,rfl,rfl,HM,hmx,HB⟩:=hrel
  by_cases hlt:i < subs.length
  ·have hlt':(i:Int) < (subs.length:Int):=by omega
   obtain⟨bb,off,hA,hbW,hc⟩:=HS.out.1.at_ hlt
   have HTk:=Lib.hid (show htEs n ((subs.take (i+1)).map plE)=max (htEs n ((subs.take i).map plE)) (htE n (plE subs[i])) from by
    rw[List.take_succ_eq_append_getElem hlt,List.map_append,List.map_cons,List.map_nil,zB3])
   have HOx:=Lib.hid (HOs.out.at_ (List.getElem_mem hlt))
   have HTx:=Lib.hid (HT.out _ (List.getElem_mem hlt))
   generalize subs[i]=x at hc HTk HOx HTx
   have hxe:∃ xk xt xm xa xb xAs xcs xsubs xAd xcd xdecls xAt xct xtail xpos,x=.mk xk xt xm xa xb xAs xcs xsubs xAd xcd xdecls xAt xct xtail xpos:=by cases x;exact⟨_,_,_,_,_,_,_,_,_,_,_,_,_,_,_,rfl⟩
   obtain⟨xk,xt,xm,xa,xb,xAs,xcs,xsubs,xAd,xcd,xdecls,xAt,xct,xtail,xpos,rfl⟩:=hxe
   have c0:=zZ4 HB.out hbW (hc 0 _ rfl)
   have c1:=zZ4 HB.out hbW (hc 1 _ rfl)
   have c2:=zZ4 HB.out hbW (hc 2 _ rfl)
   have c3:=zZ4 HB.out hbW (hc 3 _ rfl)
   have c4:=zZ4 HB.out hbW (hc 4 _ rfl)
   have c5:=zZ4 HB.out hbW (hc 5 _ rfl)
   have c6:=zZ4 HB.out hbW (hc 6 _ rfl)
   have c7:=zZ4 HB.out hbW (hc 7 _ rfl)
   have c8:=zZ4 HB.out hbW (hc 8 _ rfl)
   dsimp only[Nat.add_zero] at c0 c1 c2 c3 c4 c5 c6 c7 c8
   have hba:=(Below.refl wr.heap.size wr).alloc (Nat.le_refl _) (.cells #[.int .i64 xk,.string ⟨xt.toArray⟩,.int .i64 xm,.string ⟨xa.toArray⟩,.string ⟨xb.toArray⟩,.slice xAs xsubs.length xcs,.slice xAd xdecls.length xcd,.slice xAt xtail.length xct,.int .i64 xpos] 67)
   have B1:=Lib.hid (Blk.new wr 67 #[.int .i64 xk,.string ⟨xt.toArray⟩,.int .i64 xm,.string ⟨xa.toArray⟩,.string ⟨xb.toArray⟩,.slice xAs xsubs.length xcs,.slice xAd xdecls.length xcd,.slice xAt xtail.length xct,.int .i64 xpos])
   have HB1:=Lib.hid (HB.out.trans (hba.mono HB.out.size))
   go_upto_region 5 with fail
   clear c0 c1 c2 c3 c4 c5 c6 c7 c8 hbW hA hba hc HB
   obtain⟨gx,hgx⟩:∃ gx,gx=wr.heap.size:=⟨_,rfl⟩
   rw[←hgx] at B1 ⊢
   generalize wr.alloc (.cells #[.int .i64 xk,.string ⟨xt.toArray⟩,.int .i64 xm,.string ⟨xa.toArray⟩,.string ⟨xb.toArray⟩,.slice xAs xsubs.length xcs,.slice xAd xdecls.length xcd,.slice xAt xtail.length xct,.int .i64 xpos] 67)=wb at B1 HB1 ⊢
   clear hgx
   obtain⟨e0,e1,e2,e3,e4,e5,e6,e7,e8⟩:=zZ6 B1.out
   by_cases hn0:n=0
   ·subst hn0
    have hN1:N=1:=by have:=HN.out;omega
    go_wp2
    exact⟨⟨i+1,mx,by omega,by go_num,rfl,Lib.hid (by rw[HTk.out,yI7,HM.out];simp),by omega,HB1⟩,by simp[intOf];omega⟩
   ·obtain⟨q,rfl⟩:∃ q,n=q+1:=⟨n-1,by omega⟩
    have cT:=HTx.out q wb (by omega) ((zW9 HB1.out.size).1 _ ((zX8 HB1.out).1 _ HOx.out))
    simp only[encE] at cT
    have hq:((q+1:Nat):Int)=N-1:=by have:=HN.out;omega
    have hN1:1 < N:=by omega
    rw[hq] at cT
    clear hq
    have hle:=xW1 (q+1) (plE (.mk xk xt xm xa xb xAs xcs xsubs xAd xcd xdecls xAt xct xtail xpos))
    have HTy:=Lib.hid (show max mx (htE (q+1) (plE (.mk xk xt xm xa xb xAs xcs xsubs xAd xcd xdecls xAt xct xtail xpos)))=htEs (q+1) ((subs.take (i+1)).map plE) from by rw[HTk.out,HM.out])
    generalize htE (q+1) (plE (.mk xk xt xm xa xb xAs xcs xsubs xAd xcd xdecls xAt xct xtail xpos))=hx at cT hle HTy
    go_wp2_with fail
    refine cT.mono ?_
    rintro r w4 ⟨rfl,hb4⟩
    have HB4:=Lib.hid (HB1.out.trans (hb4.mono HB1.out.size))
    clear cT hb4 e0 e1 e2 e3 e4 e5 e6 e7 e8
    have hmc:max (mx:Int) (hx:Int)=((max mx hx:Nat):Int):=by omega
    go_wp2
    go_roundw
    case rel=>exact⟨i+1,max mx hx,by omega,by go_num,by first | rfl | rw[hmc],Lib.hid HTy.out,by omega,HB4⟩
    case measure=>simp[intOf];omega
  ·obtain rfl:i=subs.length:=by omega
   rw[List.take_length,←zX9] at HM
   obtain⟨e0,e1,e2,e3,e4,e5,e6,e7,e8⟩:=zZ6 ((Kp.low HB.out).blk HBx.out (by have:=HBl.out;omega))
   have cD:=HDp.out Ad cd n wr (by omega) ((HSd.out.below HB.out).more HB.out.size) ((zW9 HB.out.size).2.2.2 _ ((zX8 HB.out).2.2.2 _ HOd.out))
   have hle:=yS2 n (plDs decls)
   have hq:(n:Int)=N-1:=by have:=HN.out;omega
   rw[hq] at cD
   clear hq
   obtain⟨hd,hhd⟩:∃ hd,hd=htDs n (plDs decls):=⟨_,rfl⟩
   rw[←hhd] at cD hle
   have HHd:=Lib.hid hhd
   clear hhd
   go_wp2_with fail
   refine cD.mono ?_
   rintro r w4 ⟨rfl,hb4⟩
   have HB4:=Lib.hid (HW.out.trans ((HB.out.trans (hb4.mono HB.out.size)).mono HW.out.size))
   clear cD hb4 e0 e1 e2 e3 e4 e5 e6 e7 e8
   go_wp2
   go_ret
   refine⟨?_,HB4.out⟩
   rw[←HHd.out,←HM.out]
   have hv:min (max (mx:Int) (hd:Int)+1) N=((min (max mx hd+1) (n+1):Nat):Int):=by have:=HN.out;omega
   rw[hv]
   rfl
set_option maxRecDepth 100000 in
set_option maxHeartbeats 4000000 in
theorem yX5 {l:List DA}(hD:∀ d∈l,(∀ x∈zU6 d,TlOk x)∧DpOk (xW3 d)):DpOk l:=by
 intro A c n w hn hSl hOk
 obtain⟨N,hN⟩:∃ N:Int,N=(n:Int):=⟨_,rfl⟩
 rw[←hN]
 have hN17:N≤17:=by omega
 have hN0:0≤N:=by omega
 have HN:=Lib.hid hN
 have HS:=Lib.hid hSl
 have HOs:=Lib.hid hOk
 have hsl:=hSl.2
 have HT:=Lib.hid hD
 clear hN hSl hOk hD
 go_enter Tryz.func164,Tryz.ntmps164
 go_upto_region 3 with fail
 go_loopw [5,12] (fun vv iv wq=>∃ (i mx:Nat),i≤l.length∧iv=.int .i64 (i:Nat)∧vv=.int .i64 (mx:Nat)∧Hid (mx=htDs n ((l.take i).map plD))∧mx≤17∧Hid (Below w.heap.size w wq)) (fun _ iv _=>l.length-(intOf iv).toNat)
 case atStart=>exact⟨0,0,Nat.zero_le _,rfl,rfl,Lib.hid rfl,by omega,Lib.hid (Below.refl _ _)⟩
 case round=>
  obtain⟨i,mx,hi,rfl,rfl,HM,hmx,HB⟩:=hrel
  by_cases hlt:i < l.length
  ·have hlt':(i:Int) < (l.length:Int):=by omega
   obtain⟨bb,off,hA,hbW,hc⟩:=HS.out.1.at_ hlt
   have HTk:=Lib.hid (show htDs n ((l.take (i+1)).map plD)=max (htDs n ((l.take i).map plD)) (htD n (plD l[i])) from by
    rw[List.take_succ_eq_append_getElem hlt,List.map_append,List.map_cons,List.map_nil,yO8])
   have HOx:=Lib.hid (yI8 HOs.out (List.getElem_mem hlt))
   have HTx:=Lib.hid (HT.out _ (List.getElem_mem hlt))
   generalize l[i]=x at hc HTk HOx HTx
   have hxe:∃ xk xp xl xa xb xAs xcs xsubs xAb xcb xbody xAt xct xtail xAl xcl xlead xtr xpos,x=.mk xk xp xl xa xb xAs xcs xsubs xAb xcb xbody xAt xct xtail xAl xcl xlead xtr xpos:=by cases x;exact⟨_,_,_,_,_,_,_,_,_,_,_,_,_,_,_,_,_,_,_,rfl⟩
   obtain⟨xk,xp,xl,xa,xb,xAs,xcs,xsubs,xAb,xcb,xbody,xAt,xct,xtail,xAl,xcl,xlead,xtr,xpos,rfl⟩:=hxe
   have c0:=zZ4 HB.out hbW (hc 0 _ rfl)
   have c1:=zZ4 HB.out hbW (hc 1 _ rfl)
   have c2:=zZ4 HB.out hbW (hc 2 _ rfl)
   have c3:=zZ4 HB.out hbW (hc 3 _ rfl)
   have c4:=zZ4 HB.out hbW (hc 4 _ rfl)
   have c5:=zZ4 HB.out hbW (hc 5 _ rfl)
   have c6:=zZ4 HB.out hbW (hc 6 _ rfl)
   have c7:=zZ4 HB.out hbW (hc 7 _ rfl)
   have c8:=zZ4 HB.out hbW (hc 8 _ rfl)
   have c9:=zZ4 HB.out hbW (hc 9 _ rfl)
   have c10:=zZ4 HB.out hbW (hc 10 _ rfl)
   dsimp only[Nat.add_zero] at c0 c1 c2 c3 c4 c5 c6 c7 c8 c9 c10
   have hba:=(Below.refl wr.heap.size wr).alloc (Nat.le_refl _) (.cells #[.int .i64 xk,.int .i64 xp,.string ⟨xl.toArray⟩,.string ⟨xa.toArray⟩,.string ⟨xb.toArray⟩,.slice xAs xsubs.length xcs,.slice xAb xbody.length xcb,.slice xAt xtail.length xct,.slice xAl xlead.length xcl,.string ⟨xtr.toArray⟩,.int .i64 xpos] 71)
   have B1:=Lib.hid (Blk.new wr 71 #[.int .i64 xk,.int .i64 xp,.string ⟨xl.toArray⟩,.string ⟨xa.toArray⟩,.string ⟨xb.toArray⟩,.slice xAs xsubs.length xcs,.slice xAb xbody.length xcb,.slice xAt xtail.length xct,.slice xAl xlead.length xcl,.string ⟨xtr.toArray⟩,.int .i64 xpos])
   have HB1:=Lib.hid (HB.out.trans (hba.mono HB.out.size))
   go_upto_region 5 with fail
   clear c0 c1 c2 c3 c4 c5 c6 c7 c8 c9 c10 hbW hA hba hc HB
   obtain⟨gx,hgx⟩:∃ gx,gx=wr.heap.size:=⟨_,rfl⟩
   rw[←hgx] at B1 ⊢
   generalize wr.alloc (.cells #[.int .i64 xk,.int .i64 xp,.string ⟨xl.toArray⟩,.string ⟨xa.toArray⟩,.string ⟨xb.toArray⟩,.slice xAs xsubs.length xcs,.slice xAb xbody.length xcb,.slice xAt xtail.length xct,.slice xAl xlead.length xcl,.string ⟨xtr.toArray⟩,.int .i64 xpos] 71)=wb at B1 HB1 ⊢
   clear hgx
   by_cases hn0:n=0
   ·subst hn0
    have hN1:N=0:=by have:=HN.out;omega
    go_wp2
    go_ret
    exact⟨by rw[yO7];rfl,HB1.out⟩
   ·obtain⟨q,rfl⟩:∃ q,n=q+1:=⟨n-1,by omega⟩
    have hN1:1≤N:=by have:=HN.out;omega
    have hOx:=HOx.out
    rw[OkAd] at hOx
    have HSx:=Lib.hid hOx.2.1
    have HOe:=Lib.hid hOx.2.2.1
    have HSb:=Lib.hid hOx.2.2.2.1
    have HOb:=Lib.hid hOx.2.2.2.2.1
    have hsx:=hOx.2.1.2
    have HTe:=Lib.hid (show ∀ x∈xsubs,TlOk x from HTx.out.1)
    have HTb:=Lib.hid (show DpOk xbody from HTx.out.2)
    have hde:htD (q+1) (plD (.mk xk xp xl xa xb xAs xcs xsubs xAb xcb xbody xAt xct xtail xAl xcl xlead xtr xpos))=max (htEs q (plEs xsubs)) (htDs q (plDs xbody))+1:=by
     rw[plD,htD,if_neg (by omega)]
     rfl
    rw[hde] at HTk
    have d5:=B1.out.cell 5
    clear hOx hde HOx HTx
    go_upto_region 8 with fail
    clear d5
    go_loopw [5,21] (fun vv jv wq=>∃ (j my:Nat),j≤xsubs.length∧jv=.int .i64 (j:Nat)∧vv=.int .i64 (my:Nat)∧Hid (max my 1=max (max mx 1) (htEs q ((xsubs.take j).map plE)+1))∧my≤17∧Hid (Below w.heap.size w wq)∧Hid (Blk wq gx 71 #[.int .i64 xk,.int .i64 xp,.string ⟨xl.toArray⟩,.string ⟨xa.toArray⟩,.string ⟨xb.toArray⟩,.slice xAs xsubs.length xcs,.slice xAb xbody.length xcb,.slice xAt xtail.length xct,.slice xAl xlead.length xcl,.string ⟨xtr.toArray⟩,.int .i64 xpos])) (fun _ jv _=>xsubs.length-(intOf jv).toNat)
    case atStart=>exact⟨0,mx,Nat.zero_le _,rfl,rfl,Lib.hid (by simp[htEs]),by omega,HB1,B1⟩
    case round=>
     clear B1 HB1
     obtain⟨j,my,hj,rfl,rfl,HMy,hmy,HB,B1⟩:=hrel
     by_cases hjl:j < xsubs.length
     ·have hjl':(j:Int) < (xsubs.length:Int):=by omega
      obtain⟨bb,off,hA,hbW,hc⟩:=HSx.out.1.at_ hjl
      have HTj:=Lib.hid (show htEs q ((xsubs.take (j+1)).map plE)=max (htEs q ((xsubs.take j).map plE)) (htE q (plE xsubs[j])) from by
       rw[List.take_succ_eq_append_getElem hjl,List.map_append,List.map_cons,List.map_nil,zB3])
      have HOy:=Lib.hid (HOe.out.at_ (List.getElem_mem hjl))
      have HTy:=Lib.hid (HTe.out _ (List.getElem_mem hjl))
      generalize xsubs[j]=y at hc HTj HOy HTy
      have hye:∃ yk yt ym ya yb yAs ycs ysubs yAd ycd ydecls yAt yct ytail ypos,y=.mk yk yt ym ya yb yAs ycs ysubs yAd ycd ydecls yAt yct ytail ypos:=by cases y;exact⟨_,_,_,_,_,_,_,_,_,_,_,_,_,_,_,rfl⟩
      obtain⟨yk,yt,ym,ya,yb,yAs,ycs,ysubs,yAd,ycd,ydecls,yAt,yct,ytail,ypos,rfl⟩:=hye
      have c0:=zZ4 HB.out hbW (hc 0 _ rfl)
      have c1:=zZ4 HB.out hbW (hc 1 _ rfl)
      have c2:=zZ4 HB.out hbW (hc 2 _ rfl)
      have c3:=zZ4 HB.out hbW (hc 3 _ rfl)
      have c4:=zZ4 HB.out hbW (hc 4 _ rfl)
      have c5:=zZ4 HB.out hbW (hc 5 _ rfl)
      have c6:=zZ4 HB.out hbW (hc 6 _ rfl)
      have c7:=zZ4 HB.out hbW (hc 7 _ rfl)
      have c8:=zZ4 HB.out hbW (hc 8 _ rfl)
      dsimp only[Nat.add_zero] at c0 c1 c2 c3 c4 c5 c6 c7 c8
      have hba:=(Below.refl wr.heap.size wr).alloc (Nat.le_refl _) (.cells #[.int .i64 yk,.string ⟨yt.toArray⟩,.int .i64 ym,.string ⟨ya.toArray⟩,.string ⟨yb.toArray⟩,.slice yAs ysubs.length ycs,.slice yAd ydecls.length ycd,.slice yAt ytail.length yct,.int .i64 ypos] 67)
      have B2:=Lib.hid (Blk.new wr 67 #[.int .i64 yk,.string ⟨yt.toArray⟩,.int .i64 ym,.string ⟨ya.toArray⟩,.string ⟨yb.toArray⟩,.slice yAs ysubs.length ycs,.slice yAd ydecls.length ycd,.slice yAt ytail.length yct,.int .i64 ypos])
      have HB2:=Lib.hid (HB.out.trans (hba.mono HB.out.size))
      have B3:=Lib.hid (B1.out.keep hba)
      go_upto_region 10 with fail
      clear c0 c1 c2 c3 c4 c5 c6 c7 c8 hbW hA hba hc HB B1
      obtain⟨gy,hgy⟩:∃ gy,gy=wr.heap.size:=⟨_,rfl⟩
      rw[←hgy] at B2 ⊢
      generalize wr.alloc (.cells #[.int .i64 yk,.string ⟨yt.toArray⟩,.int .i64 ym,.string ⟨ya.toArray⟩,.string ⟨yb.toArray⟩,.slice yAs ysubs.length ycs,.slice yAd ydecls.length ycd,.slice yAt ytail.length yct,.int .i64 ypos] 67)=wy at B2 B3 HB2 ⊢
      clear hgy
      obtain⟨e0,e1,e2,e3,e4,e5,e6,e7,e8⟩:=zZ6 B2.out
      by_cases hq0:q=0
      ·subst hq0
       have hN2:N=1:=by have:=HN.out;omega
       go_wp2
       go_roundw
       case rel=>exact⟨j+1,my,by omega,by go_num,rfl,Lib.hid (by rw[HTj.out,HMy.out,yI7];simp),by omega,HB2,B3⟩
       case measure=>simp[intOf];omega
      ·obtain⟨z,rfl⟩:∃ z,q=z+1:=⟨q-1,by omega⟩
       have cT:=HTy.out z wy (by omega) ((zW9 HB2.out.size).1 _ ((zX8 HB2.out).1 _ HOy.out))
       simp only[encE] at cT
       have hq:((z+1:Nat):Int)=N-1:=by have:=HN.out;omega
       have hN2:1 < N:=by have:=HN.out;omega
       rw[hq] at cT
       clear hq
       have hle:=xW1 (z+1) (plE (.mk yk yt ym ya yb yAs ycs ysubs yAd ycd ydecls yAt yct ytail ypos))
       have HMz:=Lib.hid (show max (max my (htE (z+1) (plE (.mk yk yt ym ya yb yAs ycs ysubs yAd ycd ydecls yAt yct ytail ypos))+1)) 1=max (max mx 1) (htEs (z+1) ((xsubs.take (j+1)).map plE)+1) from by
        rw[HTj.out]
        have:=HMy.out
        omega)
       generalize htE (z+1) (plE (.mk yk yt ym ya yb yAs ycs ysubs yAd ycd ydecls yAt yct ytail ypos))=hx at cT hle HMz
       have hx17:hx+1≤17:=by have:=HN.out;omega
       go_wp2_with fail
       refine cT.mono ?_
       rintro r w4 ⟨rfl,hb4⟩
       have HB4:=Lib.hid (HB2.out.trans (hb4.mono HB2.out.size))
       have B4:=Lib.hid (B3.out.keep hb4)
       clear cT hb4 e0 e1 e2 e3 e4 e5 e6 e7 e8
       have hmc:max (my:Int) ((hx:Int)+1)=((max my (hx+1):Nat):Int):=by omega
       go_wp2
       go_roundw
       case rel=>exact⟨j+1,max my (hx+1),by omega,by go_num,by first | rfl | rw[hmc],Lib.hid HMz.out,by omega,HB4,B4⟩
       case measure=>simp[intOf];omega
     ·obtain rfl:j=xsubs.length:=by omega
      rw[List.take_length,←zX9] at HMy
      have d6:=B1.out.cell 6
      have cD:=HTb.out xAb xcb q wr (by omega) ((HSb.out.below HB.out).more HB.out.size) ((zW9 HB.out.size).2.2.2 _ ((zX8 HB.out).2.2.2 _ HOb.out))
      have hle:=yS2 q (plDs xbody)
      have hq:(q:Int)=N-1:=by have:=HN.out;omega
      rw[hq] at cD
      clear hq
      have HMz:=Lib.hid (show max my (htDs q (plDs xbody)+1)=htDs (q+1) ((l.take (i+1)).map plD) from by
       rw[HTk.out,←HM.out]
       have:=HMy.out
       omega)
      generalize htDs q (plDs xbody)=hx at cD hle HMz
      have hx17:hx+1≤17:=by have:=HN.out;omega
      go_wp2_with fail
      refine cD.mono ?_
      rintro r w4 ⟨rfl,hb4⟩
      have HB4:=Lib.hid (HB.out.trans (hb4.mono HB.out.size))
      clear cD hb4 d6
      have hmc:max (my:Int) ((hx:Int)+1)=((max my (hx+1):Nat):Int):=by omega
      go_wp2
      go_roundw
      case rel=>exact⟨i+1,max my (hx+1),by omega,by go_num,by first | rfl | rw[hmc],Lib.hid HMz.out,by omega,HB4⟩
      case measure=>simp[intOf];omega
  ·obtain rfl:i=l.length:=by omega
   rw[List.take_length,←zY7] at HM
   go_wp2
   go_ret
   exact⟨by rw[HM.out];rfl,HB.out⟩
theorem heights:(∀ e,TlOk e)∧(∀ d:DA,(∀ x∈zU6 d,TlOk x)∧DpOk (xW3 d))∧(∀ l:List EA,∀ x∈l,TlOk x)∧∀ l:List DA,∀ d∈l,(∀ x∈zU6 d,TlOk x)∧DpOk (xW3 d):=
 zX4 (fun _ _ _ _ _ _ _ _ _ _ _ _ _ _ _ h1 h2=>yD8 h1 (yX5 h2)) (fun _ _ _ _ _ _ _ _ _ _ _ _ _ _ _ _ _ _ _ h1 h2=>⟨h1,yX5 h2⟩)
  (fun x h=>by cases h) (fun e l h1 h2 x hx=>by
   rcases List.mem_cons.1 hx with rfl | hx
   ·exact h1
   ·exact h2 x hx) (fun x h=>by cases h) (fun e l h1 h2 x hx=>by
   rcases List.mem_cons.1 hx with rfl | hx
   ·exact h1
   ·exact h2 x hx)
set_option maxRecDepth 100000 in
set_option maxHeartbeats 4000000 in
theorem yD9 (e:EA)(w:World)(h:OkA w w.heap.size e):Calls Tryz.prog 94 #[.agg (encE e).toArray] w fun r w'=>r=.returned (.int .i64 (htE 17 (plE e):Nat))∧Below w.heap.size w w':=by
 have hxe:∃ xk xt xm xa xb xAs xcs xsubs xAd xcd xdecls xAt xct xtail xpos,e=.mk xk xt xm xa xb xAs xcs xsubs xAd xcd xdecls xAt xct xtail xpos:=by cases e;exact⟨_,_,_,_,_,_,_,_,_,_,_,_,_,_,_,rfl⟩
 obtain⟨xk,xt,xm,xa,xb,xAs,xcs,xsubs,xAd,xcd,xdecls,xAt,xct,xtail,xpos,rfl⟩:=hxe
 have hb:=(Below.refl w.heap.size w).alloc (Nat.le_refl _) (.cells #[.int .i64 xk,.string ⟨xt.toArray⟩,.int .i64 xm,.string ⟨xa.toArray⟩,.string ⟨xb.toArray⟩,.slice xAs xsubs.length xcs,.slice xAd xdecls.length xcd,.slice xAt xtail.length xct,.int .i64 xpos] 67)
 have HBx:=Lib.hid (Blk.new w 67 #[.int .i64 xk,.string ⟨xt.toArray⟩,.int .i64 xm,.string ⟨xa.toArray⟩,.string ⟨xb.toArray⟩,.slice xAs xsubs.length xcs,.slice xAd xdecls.length xcd,.slice xAt xtail.length xct,.int .i64 xpos])
 have HW:=Lib.hid hb
 have cT:=heights.1 _ 16 _ (by omega) ((zW9 hb.size).1 _ ((zX8 hb).1 _ h))
 clear hb h
 simp only[encE] at cT ⊢
 have h17:((16+1:Nat):Int)=17:=rfl
 rw[h17] at cT
 clear h17
 go_enter Tryz.func94,Tryz.ntmps94
 go_upto_region 1 with fail
 generalize w.alloc (.cells #[.int .i64 xk,.string ⟨xt.toArray⟩,.int .i64 xm,.string ⟨xa.toArray⟩,.string ⟨xb.toArray⟩,.slice xAs xsubs.length xcs,.slice xAd xdecls.length xcd,.slice xAt xtail.length xct,.int .i64 xpos] 67)=w1 at HBx HW cT ⊢
 obtain⟨e0,e1,e2,e3,e4,e5,e6,e7,e8⟩:=zZ6 HBx.out
 go_wp2_with fail
 refine cT.mono ?_
 rintro r w4 ⟨rfl,hb4⟩
 have HB4:=Lib.hid (HW.out.trans (hb4.mono HW.out.size))
 clear cT hb4 e0 e1 e2 e3 e4 e5 e6 e7 e8
 go_wp2
 go_ret
 exact⟨rfl,HB4.out⟩
end Go.Proofs.YtdgehhgjgifikaaGreatDoor
