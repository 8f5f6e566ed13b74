/- What the claim needs of:QG QH. -/
import Derived.Test.YtdgehhgjgifikaaGreatDoorN38
import Derived.Test.YtdgehhgjgifikaaGreatDoorN30
import Derived.Test.YtdgehhgjgifikaaGreatDoorN39
namespace Go.Proofs.YtdgehhgjgifikaaGreatDoor
open Go.RowKit
mutual
def ndE:E→Nat
 | .mk _ _ _ _ _ subs decls tail _=>1+(ndEs subs+ndDs decls+tail.length)
def ndEs:List E→Nat
 | []=>0
 | x ::l=>ndE x+ndEs l
def ndD:D→Nat
 | .mk _ _ _ _ _ subs body tail lead _ _=>1+(ndEs subs+ndDs body+tail.length+lead.length)
def ndDs:List D→Nat
 | []=>0
 | x ::l=>ndD x+ndDs l
end
theorem yN4:(∀ l:List E,l.length≤ndEs l)∧∀ l:List D,l.length≤ndDs l:=by
 constructor
 ·intro l
  induction l with
  | nil=>exact Nat.zero_le _
  | cons x l ih=>
    cases x
    rw[ndEs,ndE,List.length_cons]
    omega
 ·intro l
  induction l with
  | nil=>exact Nat.zero_le _
  | cons x l ih=>
    cases x
    rw[ndDs,ndD,List.length_cons]
    omega
theorem nd_sz:(∀ e,ndE (plE e)≤1048576→szE e)∧(∀ d,ndD (plD d)≤1048576→szD d)∧(∀ l,ndEs (plEs l)≤1048576→szEs l)∧∀ l,ndDs (plDs l)≤1048576→szDs l:=
 zX4 (fun k t m a b As cs subs Ad cd decls At ct tail pos h1 h2 h=>by
   rw[plE,ndE] at h
   have e1:=yN4.1 (plEs subs)
   have e2:=yN4.2 (plDs decls)
   rw[zX9,List.length_map] at e1
   rw[zY7,List.length_map] at e2
   rw[zX9,zY7] at h
   exact⟨by omega,h1 (by rw[zX9];omega),by omega,h2 (by rw[zY7];omega),by omega⟩)
  (fun k p l a b As cs subs Ab cb body At ct tail Al cl lead tr pos h1 h2 h=>by
   rw[plD,ndD] at h
   have e1:=yN4.1 (plEs subs)
   have e2:=yN4.2 (plDs body)
   rw[zX9,List.length_map] at e1
   rw[zY7,List.length_map] at e2
   rw[zX9,zY7] at h
   exact⟨by omega,h1 (by rw[zX9];omega),by omega,h2 (by rw[zY7];omega),by omega,by omega⟩)
  (fun _=>trivial)
  (fun e l h1 h2 h=>by
   rw[plEs,ndEs] at h
   exact⟨h1 (by omega),h2 (by omega)⟩)
  (fun _=>trivial)
  (fun d l h1 h2 h=>by
   rw[plDs,ndDs] at h
   exact⟨h1 (by omega),h2 (by omega)⟩)
theorem nd_dp:(∀ e,dpE e≤ndE e)∧(∀ d,dpD d≤ndD d)∧(∀ l,dpEs l≤ndEs l)∧∀ l,dpDs l≤ndDs l:=
 zM9 (fun k t m a b subs decls tail pos h1 h2=>by rw[dpE,ndE];omega) (fun k p l a b subs body tail lead trail pos h1 h2=>by rw[dpD,ndD];omega)
  (by rw[dpEs];exact Nat.zero_le _) (fun e l h1 h2=>by rw[dpEs,ndEs];omega) (by rw[dpDs];exact Nat.zero_le _) (fun d l h1 h2=>by rw[dpDs,ndDs];omega)
theorem zN5 {a b n m:Nat}(hn:a≤2 ^ n*b)(h:n≤m):a≤2 ^ m*b:=Nat.le_trans hn (Nat.mul_le_mul_right b (Nat.pow_le_pow_right (by decide) h))
theorem nd_w:(∀ e,wE e≤2 ^ dpE (plE e)*ndE (plE e))∧(∀ d,bD d+vD d≤2 ^ dpD (plD d)*ndD (plD d))∧(∀ l,wEs l≤2 ^ dpEs (plEs l)*ndEs (plEs l))∧∀ l,bDs l+vDs l≤2 ^ dpDs (plDs l)*ndDs (plDs l):=
 zX4 (fun k t m a b As cs subs Ad cd decls At ct tail pos h1 h2=>by
   rw[wE,plE,dpE,ndE]
   have e1:=zN5 h1 (Nat.le_max_left _ (dpDs (plDs decls)))
   have e2:=zN5 h2 (Nat.le_max_right (dpEs (plEs subs)) _)
   generalize max (dpEs (plEs subs)) (dpDs (plDs decls))=q at e1 e2 ⊢
   have hp:1≤2 ^ q:=Nat.one_le_two_pow
   rw[Nat.pow_succ,Nat.mul_add,Nat.mul_one,Nat.mul_add,Nat.mul_add]
   generalize 2 ^ q=P at e1 e2 hp ⊢
   have h3:P*2*ndEs (plEs subs)=2*(P*ndEs (plEs subs)):=by rw[Nat.mul_comm P 2,Nat.mul_assoc]
   have h4:P*2*ndDs (plDs decls)=2*(P*ndDs (plDs decls)):=by rw[Nat.mul_comm P 2,Nat.mul_assoc]
   rw[h3,h4]
   omega)
  (fun k p l a b As cs subs Ab cb body At ct tail Al cl lead tr pos h1 h2=>by
   rw[vD,plD,dpD,ndD]
   have hb:bD (.mk k p l a b As cs subs Ab cb body At ct tail Al cl lead tr pos)≤2+wEs subs:=by
    rw[bD]
    split <;> omega
   have e1:=zN5 h1 (Nat.le_max_left _ (dpDs (plDs body)))
   have e2:=zN5 h2 (Nat.le_max_right (dpEs (plEs subs)) _)
   generalize max (dpEs (plEs subs)) (dpDs (plDs body))=q at e1 e2 ⊢
   have hp:1≤2 ^ q:=Nat.one_le_two_pow
   rw[Nat.pow_succ,Nat.mul_add,Nat.mul_one,Nat.mul_add,Nat.mul_add,Nat.mul_add]
   generalize 2 ^ q=P at e1 e2 hp ⊢
   have h3:P*2*ndEs (plEs subs)=2*(P*ndEs (plEs subs)):=by rw[Nat.mul_comm P 2,Nat.mul_assoc]
   have h4:P*2*ndDs (plDs body)=2*(P*ndDs (plDs body)):=by rw[Nat.mul_comm P 2,Nat.mul_assoc]
   rw[h3,h4]
   omega)
  (by rw[wEs];exact Nat.zero_le _)
  (fun e l h1 h2=>by
   rw[wEs,plEs,dpEs,ndEs,Nat.mul_add]
   have e1:=zN5 h1 (Nat.le_max_left _ (dpEs (plEs l)))
   have e2:=zN5 h2 (Nat.le_max_right (dpE (plE e)) _)
   omega)
  (by rw[bDs,vDs];exact Nat.zero_le _)
  (fun d l h1 h2=>by
   rw[bDs,vDs,plDs,dpDs,ndDs,Nat.mul_add]
   have e1:=zN5 h1 (Nat.le_max_left _ (dpDs (plDs l)))
   have e2:=zN5 h2 (Nat.le_max_right (dpD (plD d)) _)
   omega)
theorem nd_u (im:List (List Tx)):(∀ e,∀ env lp file,(uE im e env lp file).length≤ndE e)∧(∀ d,∀ env lp file,(uD im d env lp file).length≤ndD d)∧(∀ l,∀ nm i env lp file,(uEs im nm i l env lp file).length≤ndEs l)∧∀ l,∀ env lp file,(uDs im l env lp file).length≤ndDs l:=
 zM9 (fun k t m a b subs decls tail pos h1 h2 env lp file=>by
   rw[uE,ndE]
   split
   ·simp only[List.length_cons,List.length_nil]
    omega
   ·rw[List.length_append]
    have e1:=h1 (if k=15 then[a,b] else[]) 0 env lp file
    have e2:=h2 (if k=13 then shpOf decls ::env else env) (if k=13 then[] else lp) file
    omega)
  (fun k p l a b subs body tail lead trail pos h1 h2 env lp file=>by
   rw[uD,ndD,List.length_append]
   have e1:=h1 [] 0 env lp file
   have e2:=h2 env (lp++if k=6 then[a,b] else[]) file
   omega)
  (fun nm i env lp file=>by rw[uEs];exact Nat.zero_le _)
  (fun e l h1 h2 nm i env lp file=>by
   rw[uEs,ndEs,List.length_append]
   have e1:=h1 env (lp++if i=0 then[] else nm) file
   have e2:=h2 nm (i+1) env lp file
   omega)
  (fun env lp file=>by rw[uDs];exact Nat.zero_le _)
  (fun d l h1 h2 env lp file=>by
   rw[uDs,ndDs,List.length_append]
   have e1:=h1 env lp file
   have e2:=h2 env lp file
   omega)
def ndFs:List Fl→Nat
 | []=>0
 | f ::l=>1+f.imps.length+f.tail.length+ndDs f.decls+ndFs l
theorem zE6:∀ {l:List Fl}{f:Fl},f∈l→1+f.imps.length+f.tail.length+ndDs f.decls≤ndFs l
 | x ::l,f,h=>by
   rw[ndFs]
   rcases List.mem_cons.1 h with rfl | h
   ·omega
   ·have:=zE6 h;omega
theorem yG3:∀ l:List Fl,l.length≤ndFs l
 | []=>Nat.le_refl _
 | x ::l=>by
   rw[ndFs,List.length_cons]
   have:=yG3 l
   omega
structure PkS (w:World)(p:PA):Prop where
 ok:OkP w w.heap.size p
 nd:ndFs (plP p).files≤1048576
theorem PkS.keep {w w1:World}{p:PA}(h:PkS w p)(hb:Below w.heap.size w w1):PkS w1 p:=⟨(h.ok.below hb).more hb.size,h.nd⟩
theorem PkS.pkL {w:World}{p:PA}(h:PkS w p):PkL w p:=by
 have hm:∀ f∈p.files,1+f.imps.length+f.tail.length+ndDs (plDs f.decls)≤1048576:=fun f hf=>Nat.le_trans (zE6 (List.mem_map.2 ⟨f,hf,rfl⟩:plF f∈(plP p).files)) h.nd
 refine⟨h.ok,?_,fun f hf=>?_,fun f hf=>?_⟩
 ·have:=yG3 (plP p).files
  have e:(plP p).files.length=p.files.length:=List.length_map ..
  have:=h.nd
  omega
 ·have:=hm f hf
  have e:=yN4.2 (plDs f.decls)
  rw[zY7,List.length_map,←zY7] at e
  exact⟨by omega,by omega,nd_sz.2.2.2 _ (by omega),by omega⟩
 ·have:=hm f hf
  have:=nd_dp.2.2.2 (plDs f.decls)
  omega
theorem wF_nd:∀ {fs:List FA},(∀ f∈fs,dpDs (plDs f.decls)≤16)→wF fs+(fs.map fun f=>vDs f.decls).sum+nI fs≤65536*ndFs (fs.map plF)
 | [],_=>Nat.zero_le _
 | f ::fs,h=>by
   have ih:=wF_nd fun g hg=>h g (List.mem_cons_of_mem _ hg)
   have h1:=zN5 (nd_w.2.2.2 f.decls) (h f (List.mem_cons_self ..))
   have e:(2:Nat) ^ 16=65536:=by decide
   rw[e] at h1
   have e1:wF (f ::fs)=bDs f.decls+wF fs:=by simp[wF]
   have e2:((f ::fs).map fun f=>vDs f.decls).sum=vDs f.decls+(fs.map fun f=>vDs f.decls).sum:=by simp
   have e3:nI (f ::fs)=f.imps.length+nI fs:=by simp[nI]
   have e4:ndFs ((f ::fs).map plF)=1+f.imps.length+f.tail.length+ndDs (plDs f.decls)+ndFs (fs.map plF):=rfl
   rw[e1,e2,e3,e4]
   omega
section
variable {rx:Tx→Bool}{p:PA}{w:World}
theorem PkS.wt (h:PkS w p)(he:∀ f∈p.files,errF rx (plF f)=0):wF p.files+(p.files.map fun f=>vDs f.decls).sum+nI p.files≤68719476736:=by
 have h1:=wF_nd fun f hf=>(zI6 (he f hf)).2
 have h2:ndFs (p.files.map plF)≤1048576:=h.nd
 omega
theorem xV8 (rx:Tx→Bool)(p:PA)(w:World)(hP:PkS w p)(hR:∀ f∈p.files,PatDs (RxOk rx) (plDs f.decls))(hG:Glob w) :
  Calls Tryz.prog 14 #[.agg #[.string ⟨p.path.toArray⟩,.slice p.A p.files.length p.c]] w (zM5 (zS9 rx (plP p)).1 (zS9 rx (plP p)).2 w):=
 yI0 rx p w hP.pkL hR hG (fun he=>by have:=hP.wt he;omega) fun f hf im env lp i=>by
  have h1:=(nd_u im).2.2.2 (plDs f.decls) env lp i
  have h2:=zE6 (List.mem_map.2 ⟨f,hf,rfl⟩:plF f∈(plP p).files)
  have h3:(plF f).decls=plDs f.decls:=rfl
  rw[h3] at h2
  have hn:ndFs (p.files.map plF)≤1048576:=hP.nd
  omega
theorem yN5 (rx:Tx→Bool)(p:PA)(w:World)(hP:PkS w p)(hR:∀ f∈p.files,PatDs (RxOk rx) (plDs f.decls))(hG:Glob w) :
  Calls Tryz.prog 16 #[.agg #[.string ⟨p.path.toArray⟩,.slice p.A p.files.length p.c]] w (zM5 (zF6 rx (plP p)).1 (zF6 rx (plP p)).2 w):=
 yT8 rx p w hP.pkL hR hG (fun he=>by have:=hP.wt he;omega) fun f hf im env lp i=>by
  have h1:=(nd_u im).2.2.2 (plDs f.decls) env lp i
  have h2:=zE6 (List.mem_map.2 ⟨f,hf,rfl⟩:plF f∈(plP p).files)
  have h3:(plF f).decls=plDs f.decls:=rfl
  rw[h3] at h2
  have hn:ndFs (p.files.map plF)≤1048576:=hP.nd
  omega
theorem yK6 (rx:Tx→Bool)(p:PA)(w:World)(hP:PkS w p)(hR:∀ f∈p.files,PatDs (RxOk rx) (plDs f.decls))(hG:Glob w) :
  Calls Tryz.prog 21 #[.agg #[.string ⟨p.path.toArray⟩,.slice p.A p.files.length p.c]] w (zI8 (zN8 rx (plP p)).1 (zN8 rx (plP p)).2 w):=
 yO3 rx p w hP.pkL hR hG fun he=>by have:=hP.wt he;omega
theorem xV9 (rx:Tx→Bool)(p:PA)(w:World)(hP:PkS w p)(hR:∀ f∈p.files,PatDs (RxOk rx) (plDs f.decls))(hG:Glob w) :
  Calls Tryz.prog 19 #[.agg #[.string ⟨p.path.toArray⟩,.slice p.A p.files.length p.c]] w (zF1 rx p w):=
 yC6 rx p w hP.pkL hR hG fun he=>by have:=hP.wt he;omega
theorem yX8 (rx:Tx→Bool)(p:PA)(w:World)(hP:PkS w p)(hR:∀ f∈p.files,PatDs (RxOk rx) (plDs f.decls))(hG:Glob w) :
  Calls Tryz.prog 25 #[.agg #[.string ⟨p.path.toArray⟩,.slice p.A p.files.length p.c]] w (yG2 rx p w):=
 yK5 rx p w hP.pkL hR hG fun he=>by have:=hP.wt he;omega
end
open Go.Sort
theorem res9 {w:World}{g:Nat}{ty:TypeId}{z0 z1 z2 z3 z4 z5 z6 z7 z8:Value}(h:Blk w g ty #[z0,z1,z2,z3,z4,z5,z6,z7,z8])(v0 v1 v2 v3 v4 v5 v6 v7 v8:Value):Blk (((((((((w.setCell ⟨g,0,none⟩ v0).setCell ⟨g,1,none⟩ v1).setCell ⟨g,2,none⟩ v2).setCell ⟨g,3,none⟩ v3).setCell ⟨g,4,none⟩ v4).setCell ⟨g,5,none⟩ v5).setCell ⟨g,6,none⟩ v6).setCell ⟨g,7,none⟩ v7).setCell ⟨g,8,none⟩ v8) g ty #[v0,v1,v2,v3,v4,v5,v6,v7,v8]∧Kp (· = g) w (((((((((w.setCell ⟨g,0,none⟩ v0).setCell ⟨g,1,none⟩ v1).setCell ⟨g,2,none⟩ v2).setCell ⟨g,3,none⟩ v3).setCell ⟨g,4,none⟩ v4).setCell ⟨g,5,none⟩ v5).setCell ⟨g,6,none⟩ v6).setCell ⟨g,7,none⟩ v7).setCell ⟨g,8,none⟩ v8):=
 ⟨by simpa using(((((((((h.set_ 0 v0).set_ 1 v1).set_ 2 v2).set_ 3 v3).set_ 4 v4).set_ 5 v5).set_ 6 v6).set_ 7 v7).set_ 8 v8),((((((((((Kp.refl (· = g) w).setCell (p:=⟨g,0,none⟩) rfl v0).setCell (p:=⟨g,1,none⟩) rfl v1).setCell (p:=⟨g,2,none⟩) rfl v2).setCell (p:=⟨g,3,none⟩) rfl v3).setCell (p:=⟨g,4,none⟩) rfl v4).setCell (p:=⟨g,5,none⟩) rfl v5).setCell (p:=⟨g,6,none⟩) rfl v6).setCell (p:=⟨g,7,none⟩) rfl v7).setCell (p:=⟨g,8,none⟩) rfl v8)⟩
theorem res11 {w:World}{g:Nat}{ty:TypeId}{z0 z1 z2 z3 z4 z5 z6 z7 z8 z9 z10:Value}(h:Blk w g ty #[z0,z1,z2,z3,z4,z5,z6,z7,z8,z9,z10])(v0 v1 v2 v3 v4 v5 v6 v7 v8 v9 v10:Value):Blk (((((((((((w.setCell ⟨g,0,none⟩ v0).setCell ⟨g,1,none⟩ v1).setCell ⟨g,2,none⟩ v2).setCell ⟨g,3,none⟩ v3).setCell ⟨g,4,none⟩ v4).setCell ⟨g,5,none⟩ v5).setCell ⟨g,6,none⟩ v6).setCell ⟨g,7,none⟩ v7).setCell ⟨g,8,none⟩ v8).setCell ⟨g,9,none⟩ v9).setCell ⟨g,10,none⟩ v10) g ty #[v0,v1,v2,v3,v4,v5,v6,v7,v8,v9,v10]∧Kp (· = g) w (((((((((((w.setCell ⟨g,0,none⟩ v0).setCell ⟨g,1,none⟩ v1).setCell ⟨g,2,none⟩ v2).setCell ⟨g,3,none⟩ v3).setCell ⟨g,4,none⟩ v4).setCell ⟨g,5,none⟩ v5).setCell ⟨g,6,none⟩ v6).setCell ⟨g,7,none⟩ v7).setCell ⟨g,8,none⟩ v8).setCell ⟨g,9,none⟩ v9).setCell ⟨g,10,none⟩ v10):=
 ⟨by simpa using(((((((((((h.set_ 0 v0).set_ 1 v1).set_ 2 v2).set_ 3 v3).set_ 4 v4).set_ 5 v5).set_ 6 v6).set_ 7 v7).set_ 8 v8).set_ 9 v9).set_ 10 v10),((((((((((((Kp.refl (· = g) w).setCell (p:=⟨g,0,none⟩) rfl v0).setCell (p:=⟨g,1,none⟩) rfl v1).setCell (p:=⟨g,2,none⟩) rfl v2).setCell (p:=⟨g,3,none⟩) rfl v3).setCell (p:=⟨g,4,none⟩) rfl v4).setCell (p:=⟨g,5,none⟩) rfl v5).setCell (p:=⟨g,6,none⟩) rfl v6).setCell (p:=⟨g,7,none⟩) rfl v7).setCell (p:=⟨g,8,none⟩) rfl v8).setCell (p:=⟨g,9,none⟩) rfl v9).setCell (p:=⟨g,10,none⟩) rfl v10)⟩
def nmE (s:Tx)(pos:Int):EA:=.mk 10 s 0 [] [] none 0 [] none 0 [] none 0 [] pos
def numE (n:Int):EA:=.mk 3 [] n [] [] none 0 [] none 0 [] none 0 [] 0
def letD (s:Tx)(A:Option Addr)(x:EA):DA:=.mk 4 0 s [] [] A 1 [x] none 0 [] none 0 [] none 0 [] [] 0
def fldD (s:Tx)(A:Option Addr)(x:EA):DA:=.mk 1 1 s [] [] A 1 [x] none 0 [] none 0 [] none 0 [] [] 0
theorem zQ8 {w:World}{B:Nat}{s:Tx}{pos:Int}(h:s.length≤maxLen):OkA w B (nmE s pos):=⟨⟨h,Nat.zero_le _,Nat.zero_le _⟩,⟨.inl rfl,Nat.zero_le _⟩,trivial,⟨.inl rfl,Nat.zero_le _⟩,trivial,⟨.inl rfl,Nat.zero_le _⟩⟩
theorem zP7 {w:World}{B:Nat}{n:Int}:OkA w B (numE n):=⟨⟨Nat.zero_le _,Nat.zero_le _,Nat.zero_le _⟩,⟨.inl rfl,Nat.zero_le _⟩,trivial,⟨.inl rfl,Nat.zero_le _⟩,trivial,⟨.inl rfl,Nat.zero_le _⟩⟩
theorem yG4 {w:World}{g:Nat}{l:List EA}{cs:Array Value}(h:Blk w g 67 cs)(e:cs.toList=l.flatMap encE)(hl:l.length≤1099511627776):SlN w w.heap.size 9 encE (some ⟨g,0,none⟩) l:=⟨h.sl zP0 l e,hl⟩
theorem yS7 {w:World}{g:Nat}{l:List DA}{cs:Array Value}(h:Blk w g 71 cs)(e:cs.toList=l.flatMap encD)(hl:l.length≤1099511627776):SlN w w.heap.size 11 encD (some ⟨g,0,none⟩) l:=⟨h.sl zU9 l e,hl⟩
set_option maxRecDepth 100000 in
set_option maxHeartbeats 4000000 in
theorem name_any (s:Tx)(pos:Int)(w:World):Calls Tryz.prog 33 #[.string ⟨s.toArray⟩,.int .i64 pos] w fun e w'=>e=.returned (.agg (encE (nmE s pos)).toArray)∧Below w.heap.size w w':=by
 have hB1:=(Below.refl w.heap.size w).alloc (Nat.le_refl _) (.cells #[.int .i64 0,.string ⟨#[]⟩,.int .i64 0,.string ⟨#[]⟩,.string ⟨#[]⟩,.slice none 0 0,.slice none 0 0,.slice none 0 0,.int .i64 0] 67)
 have Z1:=Lib.hid (Blk.new w 67 #[.int .i64 0,.string ⟨#[]⟩,.int .i64 0,.string ⟨#[]⟩,.string ⟨#[]⟩,.slice none 0 0,.slice none 0 0,.slice none 0 0,.int .i64 0])
 have HB:=Lib.hid hB1
 clear hB1
 go_enter Tryz.func33,Tryz.ntmps33
 go_upto_region 1 with fail
 generalize w.alloc (.cells #[.int .i64 0,.string ⟨#[]⟩,.int .i64 0,.string ⟨#[]⟩,.string ⟨#[]⟩,.slice none 0 0,.slice none 0 0,.slice none 0 0,.int .i64 0] 67)=w1 at Z1 HB ⊢
 obtain⟨y0,y1,y2,y3,y4,y5,y6,y7,y8⟩:=zZ6 Z1.out
 obtain⟨zf0,zf1,zf2,zf3,zf4,zf5,zf6,zf7,zf8⟩:=zK7 Z1.out
 go_wp2
 clear y0 zf0 y1 zf1 y2 zf2 y3 zf3 y4 zf4 y5 zf5 y6 zf6 y7 zf7 y8 zf8
 obtain⟨hB8,hK8⟩:=res9 Z1.out (.int .i64 10) (.string ⟨s.toArray⟩) (.int .i64 0) (.string ⟨#[]⟩) (.string ⟨#[]⟩) (.slice none 0 0) (.slice none 0 0) (.slice none 0 0) (.int .i64 pos)
 have HR:=Lib.hid (HB.out.trans (hK8.toBelow HB.out.size fun b hb e=>by omega))
 obtain⟨z0,z1,z2,z3,z4,z5,z6,z7,z8⟩:=zZ6 hB8
 refine bodyPost_ret (v:=.agg #[.int .i64 10,.string ⟨s.toArray⟩,.int .i64 0,.string ⟨#[]⟩,.string ⟨#[]⟩,.slice none 0 0,.slice none 0 0,.slice none 0 0,.int .i64 pos]) ?_ rfl ⟨rfl,HR.out⟩
 simp[results,Tryz.results33,go_sem,z0,z1,z2,z3,z4,z5,z6,z7,z8]
set_option maxRecDepth 100000 in
set_option maxHeartbeats 4000000 in
theorem yC7 (n:Int)(hn:-900000000000000 < n*10000∧n*10000 < 900000000000000)(w:World):Calls Tryz.prog 32 #[.int .i64 n] w fun e w'=>e=.returned (.agg (encE (numE (n*10000))).toArray)∧Below w.heap.size w w':=by
 have hB1:=(Below.refl w.heap.size w).alloc (Nat.le_refl _) (.cells #[.int .i64 0,.string ⟨#[]⟩,.int .i64 0,.string ⟨#[]⟩,.string ⟨#[]⟩,.slice none 0 0,.slice none 0 0,.slice none 0 0,.int .i64 0] 67)
 have Z1:=Lib.hid (Blk.new w 67 #[.int .i64 0,.string ⟨#[]⟩,.int .i64 0,.string ⟨#[]⟩,.string ⟨#[]⟩,.slice none 0 0,.slice none 0 0,.slice none 0 0,.int .i64 0])
 have HB:=Lib.hid hB1
 clear hB1
 go_enter Tryz.func32,Tryz.ntmps32
 go_upto_region 1 with fail
 generalize w.alloc (.cells #[.int .i64 0,.string ⟨#[]⟩,.int .i64 0,.string ⟨#[]⟩,.string ⟨#[]⟩,.slice none 0 0,.slice none 0 0,.slice none 0 0,.int .i64 0] 67)=w1 at Z1 HB ⊢
 obtain⟨y0,y1,y2,y3,y4,y5,y6,y7,y8⟩:=zZ6 Z1.out
 obtain⟨zf0,zf1,zf2,zf3,zf4,zf5,zf6,zf7,zf8⟩:=zK7 Z1.out
 go_wp2
 clear y0 zf0 y1 zf1 y2 zf2 y3 zf3 y4 zf4 y5 zf5 y6 zf6 y7 zf7 y8 zf8
 obtain⟨hB8,hK8⟩:=res9 Z1.out (.int .i64 3) (.string ⟨#[]⟩) (.int .i64 (n*10000)) (.string ⟨#[]⟩) (.string ⟨#[]⟩) (.slice none 0 0) (.slice none 0 0) (.slice none 0 0) (.int .i64 0)
 have HR:=Lib.hid (HB.out.trans (hK8.toBelow HB.out.size fun b hb e=>by omega))
 obtain⟨z0,z1,z2,z3,z4,z5,z6,z7,z8⟩:=zZ6 hB8
 refine bodyPost_ret (v:=.agg #[.int .i64 3,.string ⟨#[]⟩,.int .i64 (n*10000),.string ⟨#[]⟩,.string ⟨#[]⟩,.slice none 0 0,.slice none 0 0,.slice none 0 0,.int .i64 0]) ?_ rfl ⟨rfl,HR.out⟩
 simp[results,Tryz.results32,go_sem,z0,z1,z2,z3,z4,z5,z6,z7,z8]
theorem declFr {w:World}{g:Nat}{ty:TypeId}{cs:Array Value}(h:Blk w g ty cs):w.frozen? ⟨g,0,none⟩=false∧w.frozen? ⟨g,1,none⟩=false∧w.frozen? ⟨g,2,none⟩=false∧w.frozen? ⟨g,3,none⟩=false∧w.frozen? ⟨g,4,none⟩=false∧w.frozen? ⟨g,5,none⟩=false∧w.frozen? ⟨g,6,none⟩=false∧w.frozen? ⟨g,7,none⟩=false∧w.frozen? ⟨g,8,none⟩=false∧w.frozen? ⟨g,9,none⟩=false∧w.frozen? ⟨g,10,none⟩=false:=⟨h.free 0,h.free 1,h.free 2,h.free 3,h.free 4,h.free 5,h.free 6,h.free 7,h.free 8,h.free 9,h.free 10⟩
set_option maxRecDepth 100000 in
set_option maxHeartbeats 4000000 in
theorem let_any (s:Tx)(x:EA)(w:World)(hs:s.length≤maxLen)(hx:OkA w w.heap.size x):Calls Tryz.prog 34 #[.string ⟨s.toArray⟩,.agg (encE x).toArray] w fun e w'=>∃ A,e=.returned (.agg (encD (letD s A x)).toArray)∧OkAd w' w'.heap.size (letD s A x)∧zM7 w' 67 A∧Below w.heap.size w w':=by
 obtain⟨k,t,m,a,b,As,cs,subs,Ad,cd,decls,At,ct,tail,pos⟩:=x
 have hb1:Below w.heap.size w ((w.alloc (.cells #[.int .i64 k,.string ⟨t.toArray⟩,.int .i64 m,.string ⟨a.toArray⟩,.string ⟨b.toArray⟩,.slice As subs.length cs,.slice Ad decls.length cd,.slice At tail.length ct,.int .i64 pos] 67)).alloc (.cells #[.int .i64 0,.int .i64 0,.string ⟨#[]⟩,.string ⟨#[]⟩,.string ⟨#[]⟩,.slice none 0 0,.slice none 0 0,.slice none 0 0,.slice none 0 0,.string ⟨#[]⟩,.int .i64 0] 71)):=((Below.refl w.heap.size w).alloc (Nat.le_refl _) _).alloc (by simp) _
 have B1:=Lib.hid (show Blk ((w.alloc (.cells #[.int .i64 k,.string ⟨t.toArray⟩,.int .i64 m,.string ⟨a.toArray⟩,.string ⟨b.toArray⟩,.slice As subs.length cs,.slice Ad decls.length cd,.slice At tail.length ct,.int .i64 pos] 67)).alloc (.cells #[.int .i64 0,.int .i64 0,.string ⟨#[]⟩,.string ⟨#[]⟩,.string ⟨#[]⟩,.slice none 0 0,.slice none 0 0,.slice none 0 0,.slice none 0 0,.string ⟨#[]⟩,.int .i64 0] 71)) w.heap.size 67 #[.int .i64 k,.string ⟨t.toArray⟩,.int .i64 m,.string ⟨a.toArray⟩,.string ⟨b.toArray⟩,.slice As subs.length cs,.slice Ad decls.length cd,.slice At tail.length ct,.int .i64 pos] from(Blk.new w _ _).alloc _)
 have Z1:=Lib.hid (show Blk ((w.alloc (.cells #[.int .i64 k,.string ⟨t.toArray⟩,.int .i64 m,.string ⟨a.toArray⟩,.string ⟨b.toArray⟩,.slice As subs.length cs,.slice Ad decls.length cd,.slice At tail.length ct,.int .i64 pos] 67)).alloc (.cells #[.int .i64 0,.int .i64 0,.string ⟨#[]⟩,.string ⟨#[]⟩,.string ⟨#[]⟩,.slice none 0 0,.slice none 0 0,.slice none 0 0,.slice none 0 0,.string ⟨#[]⟩,.int .i64 0] 71)) (w.heap.size+1) 71 #[.int .i64 0,.int .i64 0,.string ⟨#[]⟩,.string ⟨#[]⟩,.string ⟨#[]⟩,.slice none 0 0,.slice none 0 0,.slice none 0 0,.slice none 0 0,.string ⟨#[]⟩,.int .i64 0] from by
  have:=Blk.new (w.alloc (.cells #[.int .i64 k,.string ⟨t.toArray⟩,.int .i64 m,.string ⟨a.toArray⟩,.string ⟨b.toArray⟩,.slice As subs.length cs,.slice Ad decls.length cd,.slice At tail.length ct,.int .i64 pos] 67)) 71 #[.int .i64 0,.int .i64 0,.string ⟨#[]⟩,.string ⟨#[]⟩,.string ⟨#[]⟩,.slice none 0 0,.slice none 0 0,.slice none 0 0,.slice none 0 0,.string ⟨#[]⟩,.int .i64 0]
  rw[World.size_alloc] at this
  exact this)
 have HB:=Lib.hid hb1
 have HX:=Lib.hid hx
 clear hb1 hx
 simp only[encE]
 change Calls Tryz.prog 34 #[.string ⟨s.toArray⟩,.agg #[.int .i64 k,.string ⟨t.toArray⟩,.int .i64 m,.string ⟨a.toArray⟩,.string ⟨b.toArray⟩,.slice As subs.length cs,.slice Ad decls.length cd,.slice At tail.length ct,.int .i64 pos]] w _
 go_enter Tryz.func34,Tryz.ntmps34
 go_upto_region 1 with fail
 generalize ((w.alloc (.cells #[.int .i64 k,.string ⟨t.toArray⟩,.int .i64 m,.string ⟨a.toArray⟩,.string ⟨b.toArray⟩,.slice As subs.length cs,.slice Ad decls.length cd,.slice At tail.length ct,.int .i64 pos] 67)).alloc (.cells #[.int .i64 0,.int .i64 0,.string ⟨#[]⟩,.string ⟨#[]⟩,.string ⟨#[]⟩,.slice none 0 0,.slice none 0 0,.slice none 0 0,.slice none 0 0,.string ⟨#[]⟩,.int .i64 0] 71))=w1 at B1 Z1 HB ⊢
 obtain⟨e0,e1,e2,e3,e4,e5,e6,e7,e8⟩:=zZ6 B1.out
 have hbA:=(Below.refl w1.heap.size w1).alloc (Nat.le_refl _) (.cells #[.int .i64 k,.string ⟨t.toArray⟩,.int .i64 m,.string ⟨a.toArray⟩,.string ⟨b.toArray⟩,.slice As subs.length cs,.slice Ad decls.length cd,.slice At tail.length ct,.int .i64 pos] 67)
 have Z2:=Lib.hid (Z1.out.keep hbA)
 have X2:=Lib.hid (Blk.new w1 67 #[.int .i64 k,.string ⟨t.toArray⟩,.int .i64 m,.string ⟨a.toArray⟩,.string ⟨b.toArray⟩,.slice As subs.length cs,.slice Ad decls.length cd,.slice At tail.length ct,.int .i64 pos])
 have HBA:=Lib.hid hbA
 clear hbA
 obtain⟨y0,y1,y2,y3,y4,y5,y6,y7,y8,y9,y10⟩:=zS6 Z2.out
 obtain⟨zf0,zf1,zf2,zf3,zf4,zf5,zf6,zf7,zf8,zf9,zf10⟩:=declFr Z2.out
 go_wp2
 clear e0 e1 e2 e3 e4 e5 e6 e7 e8 y0 zf0 y1 zf1 y2 zf2 y3 zf3 y4 zf4 y5 zf5 y6 zf6 y7 zf7 y8 zf8 y9 zf9 y10 zf10
 obtain⟨hB8,hK8⟩:=res11 Z2.out (.int .i64 4) (.int .i64 0) (.string ⟨s.toArray⟩) (.string ⟨#[]⟩) (.string ⟨#[]⟩) (.slice (some ⟨w1.heap.size,0,none⟩) 1 1) (.slice none 0 0) (.slice none 0 0) (.slice none 0 0) (.string ⟨#[]⟩) (.int .i64 0)
 have hne:w1.heap.size≠w.heap.size+1:=by have:=Z1.out.lt;omega
 have hX8:=hK8.blk X2.out hne
 have HR:=Lib.hid (show ∃ A,Ending.returned (.agg #[.int .i64 4,.int .i64 0,.string ⟨s.toArray⟩,.string ⟨#[]⟩,.string ⟨#[]⟩,.slice (some ⟨w1.heap.size,0,none⟩) 1 1,.slice none 0 0,.slice none 0 0,.slice none 0 0,.string ⟨#[]⟩,.int .i64 0])=.returned (.agg (encD (letD s A (.mk k t m a b As cs subs Ad cd decls At ct tail pos))).toArray)∧OkAd _ _ (letD s A (.mk k t m a b As cs subs Ad cd decls At ct tail pos))∧zM7 _ 67 A∧Below w.heap.size w _ from by
  have hk0:Kp (· = w.heap.size+1) w _:=((Kp.ofBelow HB.out _).trans (Kp.ofBelow HBA.out _)).trans hK8
  have hbw:Below w.heap.size w _:=hk0.toBelow (Nat.le_refl _) fun b hb e=>by omega
  refine⟨some ⟨w1.heap.size,0,none⟩,rfl,⟨⟨hs,Nat.zero_le _,Nat.zero_le _,Nat.zero_le _⟩,yG4 hX8 (by simp[encE]) (by simp),⟨(zW9 hbw.size).1 _ ((zX8 hbw).1 _ HX.out),trivial⟩,⟨.inl rfl,Nat.zero_le _⟩,trivial,⟨.inl rfl,Nat.zero_le _⟩,⟨.inl rfl,Nat.zero_le _⟩⟩,fun a ha=>by injection ha with ha;subst ha;exact⟨_,hX8⟩,hbw⟩)
 obtain⟨z0,z1,z2,z3,z4,z5,z6,z7,z8,z9,z10⟩:=zS6 hB8
 refine bodyPost_ret (v:=.agg #[.int .i64 4,.int .i64 0,.string ⟨s.toArray⟩,.string ⟨#[]⟩,.string ⟨#[]⟩,.slice (some ⟨w1.heap.size,0,none⟩) 1 1,.slice none 0 0,.slice none 0 0,.slice none 0 0,.string ⟨#[]⟩,.int .i64 0]) ?_ rfl HR.out
 simp[results,Tryz.results34,go_sem,z0,z1,z2,z3,z4,z5,z6,z7,z8,z9,z10]
set_option maxRecDepth 100000 in
set_option maxHeartbeats 4000000 in
theorem xU0 (s:Tx)(x:EA)(w:World)(hs:s.length≤maxLen)(hx:OkA w w.heap.size x):Calls Tryz.prog 38 #[.string ⟨s.toArray⟩,.agg (encE x).toArray] w fun e w'=>∃ A,e=.returned (.agg (encD (fldD s A x)).toArray)∧OkAd w' w'.heap.size (fldD s A x)∧zM7 w' 67 A∧Below w.heap.size w w':=by
 obtain⟨k,t,m,a,b,As,cs,subs,Ad,cd,decls,At,ct,tail,pos⟩:=x
 have hb1:Below w.heap.size w ((w.alloc (.cells #[.int .i64 k,.string ⟨t.toArray⟩,.int .i64 m,.string ⟨a.toArray⟩,.string ⟨b.toArray⟩,.slice As subs.length cs,.slice Ad decls.length cd,.slice At tail.length ct,.int .i64 pos] 67)).alloc (.cells #[.int .i64 0,.int .i64 0,.string ⟨#[]⟩,.string ⟨#[]⟩,.string ⟨#[]⟩,.slice none 0 0,.slice none 0 0,.slice none 0 0,.slice none 0 0,.string ⟨#[]⟩,.int .i64 0] 71)):=((Below.refl w.heap.size w).alloc (Nat.le_refl _) _).alloc (by simp) _
 have B1:=Lib.hid (show Blk ((w.alloc (.cells #[.int .i64 k,.string ⟨t.toArray⟩,.int .i64 m,.string ⟨a.toArray⟩,.string ⟨b.toArray⟩,.slice As subs.length cs,.slice Ad decls.length cd,.slice At tail.length ct,.int .i64 pos] 67)).alloc (.cells #[.int .i64 0,.int .i64 0,.string ⟨#[]⟩,.string ⟨#[]⟩,.string ⟨#[]⟩,.slice none 0 0,.slice none 0 0,.slice none 0 0,.slice none 0 0,.string ⟨#[]⟩,.int .i64 0] 71)) w.heap.size 67 #[.int .i64 k,.string ⟨t.toArray⟩,.int .i64 m,.string ⟨a.toArray⟩,.string ⟨b.toArray⟩,.slice As subs.length cs,.slice Ad decls.length cd,.slice At tail.length ct,.int .i64 pos] from(Blk.new w _ _).alloc _)
 have Z1:=Lib.hid (show Blk ((w.alloc (.cells #[.int .i64 k,.string ⟨t.toArray⟩,.int .i64 m,.string ⟨a.toArray⟩,.string ⟨b.toArray⟩,.slice As subs.length cs,.slice Ad decls.length cd,.slice At tail.length ct,.int .i64 pos] 67)).alloc (.cells #[.int .i64 0,.int .i64 0,.string ⟨#[]⟩,.string ⟨#[]⟩,.string ⟨#[]⟩,.slice none 0 0,.slice none 0 0,.slice none 0 0,.slice none 0 0,.string ⟨#[]⟩,.int .i64 0] 71)) (w.heap.size+1) 71 #[.int .i64 0,.int .i64 0,.string ⟨#[]⟩,.string ⟨#[]⟩,.string ⟨#[]⟩,.slice none 0 0,.slice none 0 0,.slice none 0 0,.slice none 0 0,.string ⟨#[]⟩,.int .i64 0] from by
  have:=Blk.new (w.alloc (.cells #[.int .i64 k,.string ⟨t.toArray⟩,.int .i64 m,.string ⟨a.toArray⟩,.string ⟨b.toArray⟩,.slice As subs.length cs,.slice Ad decls.length cd,.slice At tail.length ct,.int .i64 pos] 67)) 71 #[.int .i64 0,.int .i64 0,.string ⟨#[]⟩,.string ⟨#[]⟩,.string ⟨#[]⟩,.slice none 0 0,.slice none 0 0,.slice none 0 0,.slice none 0 0,.string ⟨#[]⟩,.int .i64 0]
  rw[World.size_alloc] at this
  exact this)
 have HB:=Lib.hid hb1
 have HX:=Lib.hid hx
 clear hb1 hx
 simp only[encE]
 change Calls Tryz.prog 38 #[.string ⟨s.toArray⟩,.agg #[.int .i64 k,.string ⟨t.toArray⟩,.int .i64 m,.string ⟨a.toArray⟩,.string ⟨b.toArray⟩,.slice As subs.length cs,.slice Ad decls.length cd,.slice At tail.length ct,.int .i64 pos]] w _
 go_enter Tryz.func38,Tryz.ntmps38
 go_upto_region 1 with fail
 generalize ((w.alloc (.cells #[.int .i64 k,.string ⟨t.toArray⟩,.int .i64 m,.string ⟨a.toArray⟩,.string ⟨b.toArray⟩,.slice As subs.length cs,.slice Ad decls.length cd,.slice At tail.length ct,.int .i64 pos] 67)).alloc (.cells #[.int .i64 0,.int .i64 0,.string ⟨#[]⟩,.string ⟨#[]⟩,.string ⟨#[]⟩,.slice none 0 0,.slice none 0 0,.slice none 0 0,.slice none 0 0,.string ⟨#[]⟩,.int .i64 0] 71))=w1 at B1 Z1 HB ⊢
 obtain⟨e0,e1,e2,e3,e4,e5,e6,e7,e8⟩:=zZ6 B1.out
 have hbA:=(Below.refl w1.heap.size w1).alloc (Nat.le_refl _) (.cells #[.int .i64 k,.string ⟨t.toArray⟩,.int .i64 m,.string ⟨a.toArray⟩,.string ⟨b.toArray⟩,.slice As subs.length cs,.slice Ad decls.length cd,.slice At tail.length ct,.int .i64 pos] 67)
 have Z2:=Lib.hid (Z1.out.keep hbA)
 have X2:=Lib.hid (Blk.new w1 67 #[.int .i64 k,.string ⟨t.toArray⟩,.int .i64 m,.string ⟨a.toArray⟩,.string ⟨b.toArray⟩,.slice As subs.length cs,.slice Ad decls.length cd,.slice At tail.length ct,.int .i64 pos])
 have HBA:=Lib.hid hbA
 clear hbA
 obtain⟨y0,y1,y2,y3,y4,y5,y6,y7,y8,y9,y10⟩:=zS6 Z2.out
 obtain⟨zf0,zf1,zf2,zf3,zf4,zf5,zf6,zf7,zf8,zf9,zf10⟩:=declFr Z2.out
 go_wp2
 clear e0 e1 e2 e3 e4 e5 e6 e7 e8 y0 zf0 y1 zf1 y2 zf2 y3 zf3 y4 zf4 y5 zf5 y6 zf6 y7 zf7 y8 zf8 y9 zf9 y10 zf10
 obtain⟨hB8,hK8⟩:=res11 Z2.out (.int .i64 1) (.int .i64 1) (.string ⟨s.toArray⟩) (.string ⟨#[]⟩) (.string ⟨#[]⟩) (.slice (some ⟨w1.heap.size,0,none⟩) 1 1) (.slice none 0 0) (.slice none 0 0) (.slice none 0 0) (.string ⟨#[]⟩) (.int .i64 0)
 have hne:w1.heap.size≠w.heap.size+1:=by have:=Z1.out.lt;omega
 have hX8:=hK8.blk X2.out hne
 have HR:=Lib.hid (show ∃ A,Ending.returned (.agg #[.int .i64 1,.int .i64 1,.string ⟨s.toArray⟩,.string ⟨#[]⟩,.string ⟨#[]⟩,.slice (some ⟨w1.heap.size,0,none⟩) 1 1,.slice none 0 0,.slice none 0 0,.slice none 0 0,.string ⟨#[]⟩,.int .i64 0])=.returned (.agg (encD (fldD s A (.mk k t m a b As cs subs Ad cd decls At ct tail pos))).toArray)∧OkAd _ _ (fldD s A (.mk k t m a b As cs subs Ad cd decls At ct tail pos))∧zM7 _ 67 A∧Below w.heap.size w _ from by
  have hk0:Kp (· = w.heap.size+1) w _:=((Kp.ofBelow HB.out _).trans (Kp.ofBelow HBA.out _)).trans hK8
  have hbw:Below w.heap.size w _:=hk0.toBelow (Nat.le_refl _) fun b hb e=>by omega
  refine⟨some ⟨w1.heap.size,0,none⟩,rfl,⟨⟨hs,Nat.zero_le _,Nat.zero_le _,Nat.zero_le _⟩,yG4 hX8 (by simp[encE]) (by simp),⟨(zW9 hbw.size).1 _ ((zX8 hbw).1 _ HX.out),trivial⟩,⟨.inl rfl,Nat.zero_le _⟩,trivial,⟨.inl rfl,Nat.zero_le _⟩,⟨.inl rfl,Nat.zero_le _⟩⟩,fun a ha=>by injection ha with ha;subst ha;exact⟨_,hX8⟩,hbw⟩)
 obtain⟨z0,z1,z2,z3,z4,z5,z6,z7,z8,z9,z10⟩:=zS6 hB8
 refine bodyPost_ret (v:=.agg #[.int .i64 1,.int .i64 1,.string ⟨s.toArray⟩,.string ⟨#[]⟩,.string ⟨#[]⟩,.slice (some ⟨w1.heap.size,0,none⟩) 1 1,.slice none 0 0,.slice none 0 0,.slice none 0 0,.string ⟨#[]⟩,.int .i64 0]) ?_ rfl HR.out
 simp[results,Tryz.results38,go_sem,z0,z1,z2,z3,z4,z5,z6,z7,z8,z9,z10]
def pkA (A' A:Option Addr)(c:Nat)(l:List DA):PA:=⟨[],A',1,[⟨[],none,0,[],A,c,l,none,0,[]⟩]⟩
set_option maxRecDepth 100000 in
set_option maxHeartbeats 4000000 in
theorem yS8 (A:Option Addr)(c:Nat)(l:List DA)(w:World)(hl:SlN w w.heap.size 11 encD A l)(hd:OkAds w w.heap.size l):Calls Tryz.prog 35 #[.slice A l.length c] w fun e w'=>∃ A',e=.returned (.agg #[.string ⟨#[]⟩,.slice A' 1 1])∧OkP w' w'.heap.size (pkA A' A c l)∧(∃ g,A'=some ⟨g,0,none⟩∧w.heap.size≤g∧Blk w' g 58 #[.string ⟨#[]⟩,.slice none 0 0,.slice A l.length c,.slice none 0 0])∧Below w.heap.size w w':=by
 have hB1:=(Below.refl w.heap.size w).alloc (Nat.le_refl _) (.cells #[.string ⟨#[]⟩,.slice none 0 0] 24)
 have Z1:=Lib.hid (Blk.new w 24 #[.string ⟨#[]⟩,.slice none 0 0])
 have HB:=Lib.hid hB1
 have HL:=Lib.hid (show _∧_ from⟨hl,hd⟩)
 clear hB1 hl hd
 go_enter Tryz.func35,Tryz.ntmps35
 go_upto_region 1 with fail
 generalize w.alloc (.cells #[.string ⟨#[]⟩,.slice none 0 0] 24)=w1 at Z1 HB ⊢
 have hbA:=(Below.refl w1.heap.size w1).alloc (Nat.le_refl _) (.cells #[.string ⟨#[]⟩,.slice none 0 0,.slice A l.length c,.slice none 0 0] 58)
 have Z2:=Lib.hid (Z1.out.keep hbA)
 have X2:=Lib.hid (Blk.new w1 58 #[.string ⟨#[]⟩,.slice none 0 0,.slice A l.length c,.slice none 0 0])
 have HBA:=Lib.hid hbA
 clear hbA
 have y0:=Z2.out.cell 0
 have y1:=Z2.out.cell 1
 have zf0:=Z2.out.free 0
 have zf1:=Z2.out.free 1
 go_wp2
 clear y0 y1 zf0 zf1
 obtain⟨hB8,hK8⟩:=res2 Z2.out (.string ⟨#[]⟩) (.slice (some ⟨w1.heap.size,0,none⟩) 1 1)
 have hne:w1.heap.size≠w.heap.size:=by have:=Z1.out.lt;omega
 have hX8:=hK8.blk X2.out hne
 have HR:=Lib.hid (show ∃ A',Ending.returned (.agg #[.string ⟨#[]⟩,.slice (some ⟨w1.heap.size,0,none⟩) 1 1])=.returned (.agg #[.string ⟨#[]⟩,.slice A' 1 1])∧OkP _ _ (pkA A' A c l)∧(∃ g,A'=some ⟨g,0,none⟩∧w.heap.size≤g∧Blk _ g 58 #[.string ⟨#[]⟩,.slice none 0 0,.slice A l.length c,.slice none 0 0])∧Below w.heap.size w _ from by
  have hk0:Kp (· = w.heap.size) w _:=((Kp.ofBelow HB.out _).trans (Kp.ofBelow HBA.out _)).trans hK8
  have hbw:Below w.heap.size w _:=hk0.toBelow (Nat.le_refl _) fun b hb e=>by omega
  refine⟨some ⟨w1.heap.size,0,none⟩,rfl,⟨Nat.zero_le _,⟨hX8.sl zI1 [⟨[],none,0,[],A,c,l,none,0,[]⟩] rfl,by simp[pkA]⟩,fun f hf=>?_⟩,⟨w1.heap.size,rfl,HB.out.size,hX8⟩,hbw⟩
  obtain rfl:=List.mem_singleton.1 hf
  exact⟨Nat.zero_le _,⟨.inl rfl,Nat.zero_le _⟩,fun _ h=>(by cases h),(HL.out.1.below hbw).more hbw.size,(zW9 hbw.size).2.2.2 _ ((zX8 hbw).2.2.2 _ HL.out.2),⟨.inl rfl,Nat.zero_le _⟩⟩)
 obtain⟨z0,z1⟩:=zU4 hB8
 refine bodyPost_ret (v:=.agg #[.string ⟨#[]⟩,.slice (some ⟨w1.heap.size,0,none⟩) 1 1]) ?_ rfl HR.out
 simp[results,Tryz.results35,go_sem,z0,z1]
set_option maxRecDepth 100000 in
set_option maxHeartbeats 1000000 in
theorem yG5 (A A':Option Addr)(c c':Nat)(x y:List (List UInt8))(w:World)(hA:Sl w w.heap.size 1 encS A x)(hA':Sl w w.heap.size 1 encS A' y)(hx:x.length≤1099511627776)(hy:y.length≤1099511627776) :
  Calls Tryz.prog 23 #[.slice A x.length c,.slice A' y.length c'] w fun e w'=>e=.returned (.bool (decide (x=y)))∧Below w.heap.size w w':=by
 by_cases hne:x.length=y.length
 ·have n1:(x.length != y.length)=false:=by rw[hne];simp
  have n2:((x.length:Int) != (y.length:Int))=false:=by rw[hne];simp
  have HNE:=Lib.hid hne
  have hle:x.length≤y.length:=by omega
  have hge:y.length≤x.length:=by omega
  clear hne
  generalize hD:decide (x=y)=D
  have HD:=Lib.hid hD
  clear hD
  go_enter Tryz.func23,Tryz.ntmps23
  go_wp2
  go_loopw [13] (fun i wr=>∃ k,k≤x.length∧i=.int .i64 (k:Nat)∧Hid (x.take k=y.take k)∧Below w.heap.size w wr) (fun i _=>x.length-(intOf i).toNat)
  case atStart=>exact⟨0,Nat.zero_le _,rfl,rfl,Below.refl _ _⟩
  case round=>
   obtain⟨k,hk,rfl,HA,hb⟩:=hrel
   have hbz:=hb.size
   by_cases hlt:k < x.length
   ·have hlt':(k:Int) < (x.length:Int):=by omega
    have hlt2:k < y.length:=by omega
    obtain⟨b,off,rfl,hbB,hc0⟩:=(hA.below hb).at_ hlt
    have g0:=hc0 0 _ rfl
    simp only[Nat.mul_one,Nat.add_zero] at g0
    clear hc0
    obtain⟨b',off',rfl,hbB',hc1⟩:=(hA'.below hb).at_ hlt2
    have g1:=hc1 0 _ rfl
    simp only[Nat.mul_one,Nat.add_zero] at g1
    clear hc1
    have HN:=Lib.hid (show x[k]=y[k]→x.take (k+1)=y.take (k+1) from fun h=>by rw[List.take_succ_eq_append_getElem hlt,List.take_succ_eq_append_getElem hlt2,HA.out,h])
    have HF:=Lib.hid (show x[k]≠y[k]→D=false from fun h=>by rw[←HD.out];exact decide_eq_false (fun e=>h (by subst e;rfl)))
    generalize x[k]=s1 at g0 HN HF
    generalize y[k]=s2 at g1 HN HF
    by_cases hs:s1=s2
    ·have HN':=Lib.hid (HN.out hs)
     clear HN HF
     subst hs
     go_wp2
     go_quiet (fail)
     go_wp2
     go_roundw
     case rel=>exact⟨k+1,by omega,by go_num,HN'.out,hb.drewN _⟩
     case measure=>simp[intOf];omega
    ·have HF':=Lib.hid (HF.out hs)
     have hs':(s1 == s2)=false:=beq_eq_false_iff_ne.2 hs
     clear HN HF hs
     go_wp2
     go_quiet (fail)
     go_wp2
     go_ret
     exact⟨by rw[HF'.out];rfl,hb.drewN _⟩
   ·have hlt':¬ (k:Int) < (x.length:Int):=by omega
    have HF:=Lib.hid (show D=true by rw[←HD.out];refine decide_eq_true ?_;have:=HA.out;rwa [List.take_of_length_le (by omega),List.take_of_length_le (by omega)] at this)
    go_wp2
    go_ret
    exact⟨by rw[HF.out];rfl,hb⟩
 ·have n1:(x.length != y.length)=true:=by simpa using hne
  have n2:((x.length:Int) != (y.length:Int))=true:=by simp;omega
  have hD:decide (x=y)=false:=decide_eq_false (fun e=>hne (by rw[e]))
  rw[hD]
  clear hne hD
  go_enter Tryz.func23,Tryz.ntmps23
  go_wp2
  go_ret
  exact⟨rfl,Below.refl _ _⟩
end Go.Proofs.YtdgehhgjgifikaaGreatDoor
