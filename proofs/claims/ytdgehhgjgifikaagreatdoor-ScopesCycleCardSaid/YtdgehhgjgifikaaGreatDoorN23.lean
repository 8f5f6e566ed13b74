/- What the claim needs of:ZF. -/
import Derived.Test.YtdgehhgjgifikaaGreatDoorN22
namespace Go.Proofs.YtdgehhgjgifikaaGreatDoor
open Go.RowKit
theorem xZ5 {w:World}{B c:Nat}{A:Option Addr}{bs:List Nat}(h:w.ownsRow B 103 1 (.slice A bs.length c) bs.length (bs.map mptr)):MpSl w w.heap.size A bs:=by
 rcases h.2 with ⟨_,h0⟩ | ⟨g,cap,cur,hv,_,hb,h1,_,h3,h4⟩
 ·exact .inl (List.eq_nil_of_length_eq_zero h0)
 ·injection hv with hA
  have hb':Blk w g 103 cur:=hb
  refine .inr ⟨g,cur,hA,hb'.lt,hb',fun i hi=>?_⟩
  have e:cur.toList.take (bs.length*1)=bs.map mptr:=h4
  have e2:(cur.toList.take (bs.length*1))[i]? = (bs.map mptr)[i]?:=by rw[e]
  rw[List.getElem?_take,if_pos (by omega),List.getElem?_map,List.getElem?_eq_getElem hi] at e2
  simpa[mptr] using e2
theorem yJ7:∀ {fs:List FA}{j i:Nat}{d:DA},(i,d)∈tagF j fs→∃ (h:i-j < fs.length),j≤i∧d∈zZ7 fs[i-j].decls
 | f ::fs,j,i,d,h=>by
   rw[tagF,List.mem_append] at h
   rcases h with h | h
   ·obtain⟨d',hd',e⟩:=List.mem_map.1 h
    injection e with e1 e2
    subst e1 e2
    exact⟨by simp,Nat.le_refl _,by simpa using hd'⟩
   ·obtain⟨h1,h2,h3⟩:=yJ7 h
    have e:i-j=(i-(j+1))+1:=by omega
    refine⟨by rw[List.length_cons];omega,by omega,?_⟩
    simp only[e,List.getElem_cons_succ]
    exact h3
def zL9 (p:PA)(rt bF bL:Nat)(bs:List Nat):ScA:=⟨rt,bF,bL,zW5 p.files,(zZ8 p.files).zip bs⟩
structure Root (p:PA)(R:RF)(σ:GS Unit)(env:List ScA):Prop where
 ev:∃ bF bL,env=[zL9 p R.root bF bL (σ.ρ.objs.map (·.blk))]
 o2:σ.ρ.objs.map (fun o=>(o.file,o.d))=tagF 0 p.files
 o3:∀ o∈σ.ρ.objs,o=zL4 o.blk R.root o.file zO0 o.d
 pw:(σ.ρ.objs.map (·.blk)).Pairwise (· < ·)
 tw:σ.ρ.twice=twF p.files p.files.length
 cy:σ.ρ.cyc=false
 al:ValsOf (fL ((zZ8 p.files).zip (σ.ρ.objs.map (·.blk)))) (σ.ρ.all.map lptr)
 us:σ.ρ.usedI=List.replicate p.files.length []
 im:R.imps=zX5 p.files
 en:∀ b,σ.en b=if b=R.root then env else[]
def wF (fs:List FA):Nat:=(fs.map fun f=>bDs f.decls).sum
theorem xZ6:∀ fs:List FA,((zI4 fs).map fun d=>2+wEs (zU6 d)).sum=wF fs
 | []=>rfl
 | f ::fs=>by
   have ih:=xZ6 fs
   have e:zI4 (f ::fs)=zZ7 f.decls++zI4 fs:=rfl
   have e2:wF (f ::fs)=bDs f.decls+wF fs:=by simp[wF]
   rw[e,e2,List.map_append,List.sum_append,ih,yV6]
theorem yY9:∀ (objs:List Ob)(rt:Nat)(_:∀ o∈objs,o=zL4 o.blk rt o.file zO0 o.d),wObs objs+objs.length=(objs.map fun o=>2+wEs (zU6 o.d)).sum
 | [],_,_=>rfl
 | o ::l,rt,h=>by
   have ih:=yY9 l rt fun x hx=>h x (by simp[hx])
   have hw:wOb o=1+wEs (zU6 o.d):=by
    rw[h o (by simp)]
    rfl
   unfold wObs at *
   simp only[List.map_cons,List.sum_cons,List.length_cons] at *
   omega
theorem LdSt.fin {w0:World}{p:PA}{r rt bF bL:Nat}{bs:List Nat}{objs:List Ob}{iB uB:List Nat}{Ai Au:Option Addr}{ci cu:Nat}{tw:Bool}{zf av use:Value}{wx wy:World}{gs:List Nat}{s:Nat}
  (h:LdSt w0 p r rt bF bL p.files.length bs objs iB uB (.slice Ai iB.length ci) (.slice Au uB.length cu) tw zf wx)(hiB:iB.length=p.files.length)(huB:uB.length=p.files.length)
  (hP:PkL w0 p)(hone:∀ f∈p.files,yL2 f.decls)(hh:∀ f∈p.files,hDs f.decls≤900)(hs:wF p.files+s≤1099511627776)
  (hV:ValsOf (fL ((zZ8 p.files).zip bs)) (gs.map lptr))(hrow:wy.ownsRow 0 80 1 av gs.length (gs.map lptr))(hk0:Kp (fun _=>False) wx wy)(hav:∀ b,av.ownBlock=some b→wx.heap.size≤b)(htw:tw=twF p.files p.files.length){B:Nat}(hB:B≤w0.heap.size)(hPB:OkP w0 B p) :
  ∃ (R:RF) (σ:GS Unit) (env:List ScA) (Im:Nat→Prop),R.r=r∧R.use=use∧R.uB.length=p.files.length∧Root p R σ env∧St R clo0 1099511627776 s σ Im ((wy.setCell ⟨r,5,none⟩ av).setCell ⟨r,8,none⟩ use)∧PkI Im ((wy.setCell ⟨r,5,none⟩ av).setCell ⟨r,8,none⟩ use) R p.files∧
    EnvI Im ((wy.setCell ⟨r,5,none⟩ av).setCell ⟨r,8,none⟩ use) (.pointer (some ⟨R.root,0,none⟩)) env∧EnvK σ.ρ.objs env∧Below w0.heap.size w0 ((wy.setCell ⟨r,5,none⟩ av).setCell ⟨r,8,none⟩ use)∧(∀ b,b < B→Im b)∧(∀ b,Im b→b < B∨w0.heap.size≤b)∧∀ b,(zn R clo0 σ Im).Mut b→w0.heap.size≤b:=by
 have h1:=h.kept hk0 fun b hb=>hb.elim
 have hsz:=hk0.size
 obtain⟨wz,hwz⟩:∃ wz,(wy.setCell ⟨r,5,none⟩ av).setCell ⟨r,8,none⟩ use=wz:=⟨_,rfl⟩
 have hk:Kp (· = r) wy wz:=by rw[←hwz];exact((Kp.refl (· = r) wy).setCell (p:=⟨r,5,none⟩) rfl _).setCell (p:=⟨r,8,none⟩) rfl _
 have hrc:Blk wz r 86 #[.string ⟨p.path.toArray⟩,.slice p.A p.files.length p.c,.pointer (some ⟨rt,0,none⟩),.slice Ai iB.length ci,.slice Au uB.length cu,av,.bool tw,.bool false,use]:=by
  rw[←hwz]
  simpa using(h1.rc.set_ 5 av).set_ 8 use
 rw[hwz]
 clear hwz
 have hzz:=hk.size
 have hm:∀ b∈bF ::bL ::(iB++uB),¬ b=r:=fun b hb e=>h1.blkNeMap h1.rc b hb e.symm
 have havne:∀ b,av.ownBlock=some b→b≠r∧(∀ m∈bF ::bL ::(iB++uB),m≠b)∧∀ o∈objs,o.blk≠b:=fun b hb=>
  ⟨fun e=>zS1 hrow h1.rc (by decide) b hb e.symm,fun m hm e=>h1.rowNeMap hrow m hm (e▸hb),fun o ho=>zS1 hrow (h1.ob o ho) (by decide) b hb⟩
 have hsc:=hk.blk h1.sc (zS7 h1.sc h1.rc (by decide))
 have hnm:(zZ8 p.files).length=bs.length:=by rw[h.ln,zZ8,List.length_map,List.take_length]
 have hF:=h1.hF.keptK hk (hm _ (by simp))
 have hL:=h1.hL.keptK hk (hm _ (by simp))
 rw[List.take_length] at hF hL
 have hmn:=h.mn
 have hbFL:bF≠bL:=fun e=>by
  rw[List.nodup_cons] at hmn
  exact hmn.1 (by simp[e])
 obtain⟨Im,hIm⟩:∃ Im:Nat→Prop,Im=fun b=>b < B∨b=rt∨b=bF∨b=bL∨b∈iB∨(Value.slice Ai iB.length ci).ownBlock=some b∨(Value.slice Au uB.length cu).ownBlock=some b:=⟨_,rfl⟩
 have hI:∀ b,Im b↔(b < B∨b=rt∨b=bF∨b=bL∨b∈iB∨(Value.slice Ai iB.length ci).ownBlock=some b∨(Value.slice Au uB.length cu).ownBlock=some b):=fun b=>by rw[hIm]
 clear hIm
 have hImlt:∀ b,Im b→b < wz.heap.size:=fun b hb=>by
  have hs0:=h1.lo.size
  rcases(hI b).1 hb with e | rfl | rfl | rfl | e | e | e
  ·omega
  ·exact hsc.lt
  ·exact hF.lt
  ·exact hL.lt
  ·have:=h1.mapLt b (by simp[e]);omega
  ·have:=(zR6 h1.vi b e).2;omega
  ·have:=(zR6 h1.vu b e).2;omega
 have hlow:Below w0.heap.size w0 wz:=h1.low hk fun b hb=>by subst hb;exact h.nr
 have hold:∀ {w':World},Below w0.heap.size w0 w'→Kp (fun _=>False) w0 w':=fun hb=>Kp.ofBelow hb _
 have hk00:=hold hlow
 have hIm0:∀ b,b < B→Im b:=fun b hb=>(hI b).2 (.inl hb)
 have hImN:∀ b,Im b→b < B∨w0.heap.size≤b:=fun b hb=>by
  rcases(hI b).1 hb with e | rfl | rfl | rfl | e | e | e
  ·exact .inl e
  ·exact .inr h.nt
  ·exact .inr (h.ml _ (by simp))
  ·exact .inr (h.ml _ (by simp))
  ·exact .inr (h.ml _ (by simp[e]))
  ·exact .inr (zR6 h.vi b e).1
  ·exact .inr (zR6 h.vu b e).1
 have hds:∀ f∈p.files,SlI Im wz 11 encD f.Ad f.decls∧OkIds Im wz f.decls:=fun f hf=>by
  have ho:=hPB.each f hf
  have hz:=hP.sz f hf
  exact⟨(zQ3 ho.decls hB hz.2.1).kept hk00 (fun _ _ h=>h) hIm0,(zZ5 hk00 (fun _ _ h=>h) hIm0).2.2.2 _ ((okI_ofB hB).2.2.2 _ ho.trees hz.2.2.1 (hone f hf))⟩
 have hEnv:EnvI Im wz (.pointer (some ⟨rt,0,none⟩)) [zL9 p rt bF bL bs]:=by
  refine⟨⟨rfl,hsc.lt,hF.lt,hL.lt,hbFL,hF,hL,.pointer none,hsc,rfl⟩,fun x hx=>?_⟩
  rw[List.mem_singleton] at hx
  subst hx
  exact⟨(hI _).2 (.inr (.inl rfl)),(hI _).2 (.inr (.inr (.inl rfl))),(hI _).2 (.inr (.inr (.inr (.inl rfl))))⟩
 have hEK:EnvK objs [zL9 p rt bF bL bs]:=fun x hx q hq=>by
  rw[List.mem_singleton] at hx
  subst hx
  have hq2:q.2∈bs:=(List.of_mem_zip hq).2
  rw[←h.o1] at hq2
  obtain⟨o,ho,e⟩:=List.mem_map.1 hq2
  exact⟨o,ho,e⟩
 have huBm:∀ b∈uB,b∈bF ::bL ::(iB++uB):=fun b hb=>by simp[hb]
 have hnd:=hmn
 rw[List.nodup_cons,List.nodup_cons,List.nodup_append] at hnd
 have hmw:∀ b,(zn (⟨r,p.path,p.A,p.files.length,p.c,rt,Ai,ci,iB,Au,cu,uB,zX5 p.files,use⟩:RF) clo0 (⟨⟨tw,false,gs,objs,List.replicate p.files.length []⟩,av,fun b=>if b=rt then[zL9 p rt bF bL bs] else[],()⟩:GS Unit) Im).Mut b→b < wz.heap.size∧w0.heap.size≤b:=fun b hb=>by
  have hs0:=h.lo.size
  rcases hb with rfl | hb | ⟨o,ho,rfl⟩ | hb | hb
  ·exact⟨hrc.lt,by have:=h.nr;omega⟩
  ·have h2:=h1.mapLt b (huBm b hb)
   have h3:=h.ml b (huBm b hb)
   exact⟨by omega,by omega⟩
  ·have h2:=(h1.ob o ho).lt
   have h3:=(h.lt o.blk (h.o1▸List.mem_map.2 ⟨o,ho,rfl⟩)).1
   exact⟨by omega,by omega⟩
  ·have h2:=(zR6 hrow b hb).2
   have h3:=hav b hb
   exact⟨by omega,by omega⟩
  ·exact hb.elim
 have hok:(zn (⟨r,p.path,p.A,p.files.length,p.c,rt,Ai,ci,iB,Au,cu,uB,zX5 p.files,use⟩:RF) clo0 (⟨⟨tw,false,gs,objs,List.replicate p.files.length []⟩,av,fun b=>if b=rt then[zL9 p rt bF bL bs] else[],()⟩:GS Unit) Im).Ok wz:=by
  refine⟨fun b hb=>?_,hImlt⟩
  have hnew:=hmw b hb
  refine⟨hnew.1,fun hi=>?_⟩
  rcases hb with rfl | hb | ⟨o,ho,rfl⟩ | hb | hb
  ·rcases(hI _).1 hi with e | e | e | e | e | e | e
   ·have h9:=hnew.2;omega
   ·exact zS7 h1.rc h1.sc (by decide) e
   ·exact hm bF (by simp) e.symm
   ·exact hm bL (by simp) e.symm
   ·exact hm _ (by simp[e]) rfl
   ·exact(h1.rowI e).1 rfl
   ·exact(h1.rowU e).1 rfl
  ·rcases(hI _).1 hi with e | rfl | rfl | rfl | e | e | e
   ·have h9:=hnew.2;omega
   ·exact h1.blkNeMap h1.sc _ (huBm _ hb) rfl
   ·exact hnd.1 (by simp[hb])
   ·exact hnd.2.1 (by simp[hb])
   ·exact hnd.2.2.2.2 b e b hb rfl
   ·exact(h1.rowI e).2.2.1 _ (huBm _ hb) rfl
   ·exact(h1.rowU e).2.2.1 _ (huBm _ hb) rfl
  ·rcases(hI _).1 hi with e | e | e | e | e | e | e
   ·have h9:=hnew.2;omega
   ·exact zS7 (h1.ob o ho) h1.sc (by decide) e
   ·exact h1.blkNeMap (h1.ob o ho) bF (by simp) e
   ·exact h1.blkNeMap (h1.ob o ho) bL (by simp) e
   ·exact h1.blkNeMap (h1.ob o ho) _ (by simp[e]) rfl
   ·exact(h1.rowI e).2.2.2 _ (h.o1▸List.mem_map.2 ⟨o,ho,rfl⟩) rfl
   ·exact(h1.rowU e).2.2.2 _ (h.o1▸List.mem_map.2 ⟨o,ho,rfl⟩) rfl
  ·have h3:=hav b hb
   rcases(hI _).1 hi with e | e | e | e | e | e | e
   ·have h9:=hnew.2;omega
   ·have:=h.sc.lt;omega
   ·have:=h.hF.lt;omega
   ·have:=h.hL.lt;omega
   ·have:=h.mapLt b (by simp[e]);omega
   ·have:=(zR6 h.vi b e).2;omega
   ·have:=(zR6 h.vu b e).2;omega
  ·exact hb.elim
 have hVi:=zV5 h1.vi hk fun b hb e=>(h1.rowI hb).1 e.symm
 have hVu:=zV5 h1.vu hk fun b hb e=>(h1.rowU hb).1 e.symm
 have hgl:gs.length≤bs.length:=by
  have h2:=hV.len (L:=zZ8 p.files) fun q hq=>by
   unfold fL at hq
   rw[Option.isSome_map] at hq
   obtain⟨c,hc⟩:=Option.isSome_iff_exists.1 hq
   exact(List.of_mem_zip (zR1 hc)).1
  rw[List.length_map] at h2
  omega
 have hol:objs.length=bs.length:=by rw[←h.o1,List.length_map]
 have hsum:=yY9 objs rt h.o3
 have hsum2:(objs.map fun o=>2+wEs (zU6 o.d)).sum=wF p.files:=by
  have e:objs.map (fun o=>o.d)=zI4 p.files:=by
   have:=congrArg (List.map Prod.snd) h.o2
   rw[List.map_map,zI5,List.take_length] at this
   exact this
  rw[←xZ6,←e,List.map_map]
  rfl
 have hbu:0+(gs.length+wObs objs+s)≤1099511627776:=by omega
 refine⟨⟨r,p.path,p.A,p.files.length,p.c,rt,Ai,ci,iB,Au,cu,uB,zX5 p.files,use⟩,⟨⟨tw,false,gs,objs,List.replicate p.files.length []⟩,av,fun b=>if b=rt then[zL9 p rt bF bL bs] else[],()⟩,[zL9 p rt bF bL bs],Im,rfl,rfl,huB,?_,?_,?_,hEnv,hEK,hlow,hIm0,hImN,fun b hb=>(hmw b hb).2⟩
 ·refine⟨⟨bF,bL,?_⟩,?_,h.o3,?_,htw,rfl,?_,rfl,rfl,fun _=>rfl⟩
  ·show [zL9 p rt bF bL bs]=[zL9 p rt bF bL (objs.map (·.blk))]
   rw[h.o1]
  ·have:=h.o2
   rw[List.take_length] at this
   exact this
  ·show (objs.map (·.blk)).Pairwise (· < ·)
   rw[h.o1]
   exact h.pw
  ·show ValsOf (fL ((zZ8 p.files).zip (objs.map (·.blk)))) (gs.map lptr)
   rw[h.o1]
   exact hV
 ·refine⟨⟨hrc,hrc.lt,⟨xZ5 hVi,xZ5 hVu,?_,?_,?_,fun b hb=>?_,fun b hb=>?_,?_,fun b hb hb2=>?_,fun j hj=>?_,fun j hj=>?_,fun j hj x hx=>?_,fun l hl=>?_⟩,⟨fun o ho=>hk.blk (h1.ob o ho) (zS7 (h1.ob o ho) h1.rc (by decide)),fun o ho=>?_,?_⟩⟩,?_,trivial,hok,fun b hb=>hb.elim,fun b hb=>?_,⟨.inr fun a ha=>?_,.inr fun a ha=>?_,fun b hb=>(hI b).2 (.inr (.inr (.inr (.inr (.inl hb)))))⟩,fun o ho=>?_,hbu,?_⟩
  ·show (zX5 p.files).length=iB.length
   rw[zX5,List.length_map,hiB]
  ·show (List.replicate p.files.length []).length=uB.length
   rw[List.length_replicate,huB]
  ·show uB.length=iB.length
   omega
  ·have:=h1.mapLt b (by simp[show b∈iB from hb]);omega
  ·have:=h1.mapLt b (huBm b hb);omega
  ·exact hnd.2.2.2.1
  ·exact hnd.2.2.2.2 b hb b hb2 rfl
  ·have:=List.getElem_mem hj
   exact(h1.im j hj).keptK hk (hm _ (by simp[show iB[j]∈iB from this]))
  ·have hmem:uB[j]∈uB:=List.getElem_mem hj
   have h2:=(h1.um j hj).keptK hk (hm _ (by simp[hmem]))
   show OMap KS wz uB[j] ((zX5 p.files).getD j []).length (fF ((List.replicate p.files.length []).getD j []))
   have e:(List.replicate p.files.length ([]:List Tx)).getD j []=[]:=by
    rw[List.getD_eq_getElem?_getD,List.getElem?_replicate]
    split <;> rfl
   rw[e]
   exact h2.tight _ fun x hx=>by simp[fF] at hx
  ·have e:(List.replicate p.files.length ([]:List Tx)).getD j []=[]:=by
    rw[List.getD_eq_getElem?_getD,List.getElem?_replicate]
    split <;> rfl
   have hx':x∈(List.replicate p.files.length ([]:List Tx)).getD j []:=hx
   rw[e] at hx'
   cases hx'
  ·have hl':l∈zX5 p.files:=hl
   obtain⟨f,hf,rfl⟩:=List.mem_map.1 hl'
   rw[List.length_map]
   have:=(hP.sz f hf).1
   omega
  ·have:=(h1.ob o ho).lt
   omega
  ·show (objs.map (·.blk)).Nodup
   rw[h.o1]
   exact h.pw.imp fun {a b} hab=>by omega
  ·exact zV5 hrow hk fun b hb e=>(havne b hb).1 e
  ·exact⟨(havne b hb).1,fun hu=>(havne b hb).2.1 b (huBm b hu) rfl,(havne b hb).2.2⟩
  ·have ha':Ai=some a:=ha
   subst ha'
   exact(hI _).2 (.inr (.inr (.inr (.inr (.inr (.inl rfl))))))
  ·have ha':Au=some a:=ha
   subst ha'
   exact(hI _).2 (.inr (.inr (.inr (.inr (.inr (.inr rfl))))))
  ·have ho':o∈objs:=ho
   have hmem:(o.file,o.d)∈tagF 0 p.files:=by
    have h2:=h.o2
    rw[List.take_length] at h2
    rw[←h2]
    exact List.mem_map.2 ⟨o,ho',rfl⟩
   obtain⟨h2,_,h3⟩:=yJ7 hmem
   have hfm:=List.getElem_mem h2
   have hlt:o.d∈p.files[o.file-0].decls:=(List.mem_filter.1 h3).1
   have hk4:zD6 o.d=true:=(List.mem_filter.1 h3).2
   have hosc:o.sc=rt:=by rw[h.o3 o ho'];rfl
   have hoi:=OkIds.at_ (hds _ hfm).2 hlt
   have hd1:=hD_le hlt
   have hd2:=hh _ hfm
   refine⟨?_,hoi,?_,?_,?_,?_,?_⟩
   ·generalize o.d=d at hoi hk4
    obtain⟨k,pr,lb,a,b,As,cs,subs,Ab,cb,body,At,ct,tail,Al,cl,lead,tr,pos⟩:=d
    have h4:subs.length=1:=hoi.1.2 (of_decide_eq_true (show decide (k=4)=true from hk4))
    obtain⟨e,rfl⟩:=List.length_eq_one_iff.1 h4
    exact⟨e,rfl⟩
   ·show EnvI Im wz (.pointer (some ⟨o.sc,0,none⟩)) (if o.sc=rt then _ else _)
    rw[if_pos hosc,hosc]
    exact hEnv
   ·show EnvK objs (if o.sc=rt then _ else _)
    rw[if_pos hosc]
    exact hEK
   ·show (if o.sc=rt then _ else _:List ScA).length+hD o.d≤1000
    rw[if_pos hosc]
    simp only[List.length_singleton]
    omega
   ·show o.file < uB.length
    omega
   ·show OkI Im wz o.ex
    rw[h.o3 o ho']
    exact yV5 _ _
  ·show wObs objs+s≤_
   omega
 ·exact⟨rfl,(zQ3 hPB.files hB hP.nf).kept hk00 (fun _ _ h=>h) hIm0,hds,fun f hf=>⟨(zQ3 (hPB.each f hf).tail hB (hP.sz f hf).2.2.2).kept hk00 (fun _ _ h=>h) hIm0,(zQ3 (hPB.each f hf).imps hB (hP.sz f hf).1).kept hk00 (fun _ _ h=>h) hIm0⟩⟩
end Go.Proofs.YtdgehhgjgifikaaGreatDoor
