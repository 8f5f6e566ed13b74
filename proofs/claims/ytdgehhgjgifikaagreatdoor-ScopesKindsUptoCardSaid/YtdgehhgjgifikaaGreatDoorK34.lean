/- What the claim needs of:KX KY. -/
import Derived.Test.YtdgehhgjgifikaaGreatDoorK33
namespace Go.Proofs.YtdgehhgjgifikaaGreatDoor
open Go.RowKit
theorem cost_all:(∀ e,CoOk e)∧(∀ d,(∀ x∈zU3 d,CoOk x)∧CdOk (bodyC d))∧(∀ l:List EA,∀ x∈l,CoOk x)∧∀ l:List DA,∀ d∈l,(∀ x∈zU3 d,CoOk x)∧CdOk (bodyC d):=
 zY9 (fun _ _ _ _ _ _ _ _ _ _ _ _ _ _ _ g1 g2=>yI5 g1 (zL6 g2)) (fun _ _ _ _ _ _ _ _ _ _ _ _ _ _ _ _ _ _ _ g1 g2=>⟨g1,zL6 g2⟩)
  (fun _ h=>by cases h) (fun e l h1 h2 x hx=>(List.mem_cons.1 hx).elim (fun e=>e▸h1) (h2 x)) (fun _ h=>by cases h) (fun e l h1 h2 x hx=>(List.mem_cons.1 hx).elim (fun e=>e▸h1) (h2 x))
theorem cost_any (l:List DA):CdOk l:=zL6 (cost_all.2.2.2 l)
def smF (f:Fl):Bool:=(!decide (5 < f.imps.length)&&(!decide (20 < f.tail.length)&& !decide (1000 < zY3 [f.pkg]+zY3 f.tail)))&&((f.imps.all fun x=>decide (x.name.length+x.path.length≤200))&&decide (0≤zY6 f.decls 150))
def smP (p:Pk):Bool:=(p.files.all smF)&&decide (p.files.length≤3)
structure InF (w:World)(B:Nat)(f:FA):Prop where
 pkg:f.pkg.length≤B
 imps:Sl w w.heap.size 3 encI f.Ai f.imps
 ni:f.imps.length≤f.ci∧f.imps.length≤B
 names:∀ x∈f.imps,x.name.length≤B∧x.path.length≤B∧wfI x.pos
 decls:Sl w w.heap.size 11 encD f.Ad f.decls
 nd:f.decls.length≤f.cd∧f.decls.length≤B
 trees:InDs w B f.decls
 tail:Sl w w.heap.size 1 encS f.At f.tail
 nt:f.tail.length≤f.ct∧f.tail.length≤B
 texts:∀ s∈f.tail,s.length≤B
theorem InF.keep {w w':World}{B:Nat}{f:FA}(h:InF w B f)(hb:Below w.heap.size w w'):InF w' B f:=
 ⟨h.pkg,(h.imps.below hb).more hb.size,h.ni,h.names,(h.decls.below hb).more hb.size,h.nd,(zP7 hb).2.2.2 _ h.trees,(h.tail.below hb).more hb.size,h.nt,h.texts⟩
theorem sl_strs1 (t:Tx)(W:World):Sl (W.alloc (.cells #[.string ⟨t.toArray⟩] 9)) (W.alloc (.cells #[.string ⟨t.toArray⟩] 9)).heap.size 1 encS (some ⟨W.heap.size,0,none⟩) [t]:=by
 have h:=Blk.new W 9 #[.string ⟨t.toArray⟩];refine .inr ⟨_,0,rfl,h.lt,fun i hi j v hv=>?_⟩;have hj:j=0:=by
  have:=(List.getElem?_eq_some_iff.1 hv).1;simp only[encS,List.length_cons,List.length_nil] at this;omega
 have hi0:i=0:=by simp only[List.length_cons,List.length_nil] at hi;omega
 subst hj hi0;exact(h.cell 0).trans hv
set_option maxRecDepth 100000 in
theorem zV5 {Q:Exit→Act→World→Prop}{W:World}{fs:List Fact}{aa ab ac ad ae af ag ah ai aj ak al am an ao ap aq ar au av aw ax ay az aA aB aC aD aE aF aG aH aI aJ aK aL aM aN aO aP aQ aR aS aT aU aV aW aX aY aZ a0 a1 a2 a3 a4 a5 a6 a7 a8 a9 ba bb bc bd be bf bg:Value}(h:Q .normal (Act.mk #[aa,ab,ac,ad,ae,aW,aX,aY,aZ,a0,a1,a2,a3,a4,a5,a6,a7,a8,a9,ba,bb,bc,bd,be,bf,bg,aC,aD,aE,aF,aG,aH,aI,aJ,aK,aL,aM,aN,aO,aP,aQ,aR,aS,aT,aU,aV] []) W):zY0 W (fun A=>Q .normal A W) [] fs (Act.put (Act.put (Act.put (Act.put (Act.put (Act.put (Act.put (Act.put (Act.put (Act.put (Act.put (Act.put (Act.put (Act.put (Act.put (Act.put (Act.put (Act.put (Act.put (Act.put (Act.put (Act.mk #[aa,ab,ac,ad,ae,af,ag,ah,ai,aj,ak,al,am,an,ao,ap,aq,ar,au,av,aw,ax,ay,az,aA,aB,aC,aD,aE,aF,aG,aH,aI,aJ,aK,aL,aM,aN,aO,aP,aQ,aR,aS,aT,aU,aV] []) (some 5) aW) (some 6) aX) (some 7) aY) (some 8) aZ) (some 9) a0) (some 10) a1) (some 11) a2) (some 12) a3) (some 13) a4) (some 14) a5) (some 15) a6) (some 16) a7) (some 17) a8) (some 18) a9) (some 19) ba) (some 20) bb) (some 21) bc) (some 22) bd) (some 23) be) (some 24) bf) (some 25) bg):=
 zL1 qF h
set_option maxRecDepth 100000 in
set_option maxHeartbeats 8000000 in
theorem yP1 (B:Nat)(f:FA)(w:World)(hB:B≤1099511627776)(hF:InF w B f):Calls Tryz.prog 37 #[.agg (encF f).toArray] w fun e w'=>e=.returned (.bool (smF (plF f)))∧Below w.heap.size w w':=by
 obtain⟨pkg,Ai,ci,imps,Ad,cd,decls,At,ct,tail⟩:=f;have hb:=(Below.refl w.heap.size w).alloc qJ (.cells #[.string ⟨pkg.toArray⟩,.slice Ai imps.length ci,.slice Ad decls.length cd,.slice At tail.length ct] 58);have HBx:=qK (Blk.new w 58 #[.string ⟨pkg.toArray⟩,.slice Ai imps.length ci,.slice Ad decls.length cd,.slice At tail.length ct]);have HW:=qK hb;obtain⟨hp,hi,⟨_,hni⟩,hnm,hd,⟨_,hnd⟩,htr,ht,⟨_,hnt⟩,htx⟩:=hF.keep hb;have hni2:imps.length≤1099511627776:=Nat.le_trans hni hB;have hnt2:tail.length≤1099511627776:=Nat.le_trans hnt hB;have HI:=qK hi;have HNm:=qK (show ∀ x∈imps,x.name.length≤1099511627776∧x.path.length≤1099511627776 from fun x hx=>⟨Nat.le_trans (hnm x hx).1 hB,Nat.le_trans (hnm x hx).2.1 hB⟩);have HCo:=qK (cost_any decls);have HDt:=qK (show B≤1099511627776∧decls.length≤B from⟨hB,hnd⟩);have HDs:=qK hd;have HTr:=qK htr;have ht':Sl _ _ 1 encS At tail:=ht;have htx':∀ s∈tail,s.length≤B:=htx;have hp':pkg.length≤B:=hp;have HRes:=qK (show smF (plF ⟨pkg,Ai,ci,imps,Ad,cd,decls,At,ct,tail⟩)=((!decide (5 < imps.length)&&(!decide (20 < tail.length)&& !decide (1000 < zY3 [pkg]+zY3 tail)))&&((imps.all fun x=>decide (x.name.length+x.path.length≤200))&&decide (0≤zY6 (plDs decls) 150))) from rfl);generalize smF (plF ⟨pkg,Ai,ci,imps,Ad,cd,decls,At,ct,tail⟩)=res at HRes ⊢;clear hi hnm hd htr ht htx hF hp;simp only[encF];go_enter Tryz.func37,Tryz.ntmps37
 go_upto_region 1 with fail
 generalize hw1:w.alloc (.cells #[.string ⟨pkg.toArray⟩,.slice Ai imps.length ci,.slice Ad decls.length cd,.slice At tail.length ct] 58)=w1 at HBx HW HI HDs HTr ht' ⊢;clear hw1;have HS1:=qK (fun(g:Nat) (W:World) (h:Sl W W.heap.size 1 encS (some ⟨g,0,none⟩) [pkg])=>zP2 (some ⟨g,0,none⟩) 1 [pkg] W h (by simp) (fun s hs=>by
  rw[List.mem_singleton.1 hs];exact Nat.le_trans hp' hB))
 have HS2:=qK (fun(W:World) (h:Below w1.heap.size w1 W)=>zP2 At ct tail W ((ht'.below h).more h.size) hnt2 (fun s hs=>Nat.le_trans (htx' s hs) hB));have q1:=zR2 [pkg];have q2:=zR2 tail;generalize zY3 [pkg]=n1 at HS1 q1 HRes;generalize zY3 tail=n2 at HS2 q2 HRes;obtain⟨n3,hn3⟩:∃ n3,n3=n1+n2:=⟨_,rfl⟩;rw[←hn3] at HRes;have HN:=qK (show IntKind.i64.wrap ((n1:Int)+(n2:Int))=(n3:Nat) from by
  simp[IntKind.wrap,IntKind.bits,IntKind.signed];omega)
 clear hb hB hni hnd hnt ht' htx' hp' q1 q2 hn3;have HBl:=qK (show w.heap.size < w1.heap.size from HBx.out.lt);by_cases h5:5 < imps.length
 ·have H5:=qK h5;replace h5:(5:Int) < (imps.length:Int):=by omega
  apply zZ3 qF [isv _,isv _,isv _,isv _,isv _,isv _,isv _,isv _,isv _,isv _,isv _,isv _,isv _,isv _,isv _,isv _,isv _,isv _,isv _,isv _,isv _] w1.heap.size w1 qJ qH.drew qF qF qF (qC (qC (qC (qC (qC (qC (qC (qC (qC (qC (qC (qC (qC (qC (qC (qC (qC (qC (qC (qC (qC trivial))))))))))))))))))))) ?steps (by rfl) ?fin;case steps=>exact qA (qS 1) (qA (jI 0 5) (qA (qQ 1 6) (qA (qQ 2 7) (qA (qQ 3 8) (qA (kB 1 4 9) (qA (qX 4 9 5 10) (qA (qX 4 9 6 11) (qA (qX 4 9 7 12) (qA (qV 4 9 8 13) (qA (qQ 9 14) (qA (kB 1 10 15) (qA (qX 10 15 11 16) (qA (qX 10 15 12 17) (qA (qX 10 15 13 18) (qA (kB 1 10 15) (qA (qX 10 15 15 20) (qA (qX 10 15 16 21) (qA (kE 10 15 14 19 17 22) (qA (qX 10 15 18 23) (qA (qV 10 15 19 24) trivial))))))))))))))))))))
  case fin=>
   intro w2 hB
   iterate 21 refine qN ?_
   refine zV5 ?_;go_wp2;go_ret;exact⟨by rw[HRes.out,decide_eq_true H5.out];rfl,HW.out.trans (hB.mono HW.out.size)⟩
 ·have H5:=qK h5;replace h5:¬ (5:Int) < (imps.length:Int):=by omega
  by_cases h20:20 < tail.length
  ·have H20:=qK h20;replace h20:(20:Int) < (tail.length:Int):=by omega
   apply zZ3 qF [isv _,isv _,isv _,isv _,isv _,isv _,isv _,isv _,isv _,isv _,isv _,isv _,isv _,isv _,isv _,isv _,isv _,isv _,isv _,isv _,isv _] w1.heap.size w1 qJ qH.drew qF qF qF (qC (qC (qC (qC (qC (qC (qC (qC (qC (qC (qC (qC (qC (qC (qC (qC (qC (qC (qC (qC (qC trivial))))))))))))))))))))) ?steps (by rfl) ?fin;case steps=>exact qA (qS 1) (qA (jI 0 5) (qA (qQ 1 6) (qA (qQ 2 7) (qA (qQ 3 8) (qA (qR 1 4 9) (qA (kO 4 9 5 10) (qA (qP 4 9 6 11) (qA (qP 4 9 7 12) (qA (qV 4 9 8 13) (qA (qQ 9 14) (qA (kB 1 10 15) (qA (qX 10 15 11 16) (qA (qX 10 15 12 17) (qA (qX 10 15 13 18) (qA (kB 1 10 15) (qA (qX 10 15 15 20) (qA (qX 10 15 16 21) (qA (kE 10 15 14 19 17 22) (qA (qX 10 15 18 23) (qA (qV 10 15 19 24) trivial))))))))))))))))))))
   case fin=>
    intro w2 hB
    iterate 21 refine qN ?_
    refine zV5 ?_;go_wp2;go_ret;exact⟨by rw[HRes.out,decide_eq_true H20.out,decide_eq_false H5.out];rfl,HW.out.trans (hB.mono HW.out.size)⟩
  ·have H20:=qK h20;replace h20:¬ (20:Int) < (tail.length:Int):=by omega
   by_cases h1000:1000 < n3
   ·have H1000:=qK h1000;replace h1000:(1000:Int) < (n3:Int):=by omega
    apply zZ3 qF [isv _,isv _,isv _,isv _,isv _,isv _,isv _,isv _,isv _,isv _,isv _,isv _,isv _,(fun x W=>∃ g:Nat,x=.slice (some ⟨g,0,none⟩) 1 1∧Sl W W.heap.size 1 encS (some ⟨g,0,none⟩) [pkg]),isv _,isv _,isv _,isv _,(isv (.int .i64 (n3:Nat))),isv _,isv _] w1.heap.size w1 qJ qH.drew qF qF qF (qC (qC (qC (qC (qC (qC (qC (qC (qC (qC (qC (qC (qC (qA (fun _ _ _ ⟨g,e,h⟩ hb=>⟨g,e,(h.below hb).more hb.size⟩) (qC (qC (qC (qC (qC (qC (qC trivial))))))))))))))))))))) ?steps (by rfl) ?fin;case steps=>exact qA (qS 1) (qA (jI 0 5) (qA (qQ 1 6) (qA (qQ 2 7) (qA (qQ 3 8) (qA (qR 1 4 9) (qA (kO 4 9 5 10) (qA (qP 4 9 6 11) (qA (qP 4 9 7 12) (qA (qV 4 9 8 13) (qA (qQ 9 14) (qA (qR 1 10 15) (qA (yC 10 15 11 16) (qA (yE 10 15 12 17) (qA (jX 10 15 13 18) (qA (qR 1 10 15) (qA (kO 10 15 15 20) (qA (yD 10 15 16 21) (qA (jV 10 15 14 19 17 22) (qA (qP 10 15 18 23) (qA (qV 10 15 19 24) trivial))))))))))))))))))))
    case fin=>
     intro w2 hB
     iterate 13 refine qN ?_
     refine zZ4 18 rfl ?_;rintro _ ⟨_,rfl,_⟩
     iterate 4 refine qN ?_
     refine zZ4 23 rfl ?_;rintro _ rfl
     iterate 2 refine qN ?_
     refine zV5 ?_;go_wp2;go_ret;exact⟨by rw[HRes.out,decide_eq_true H1000.out,decide_eq_false H20.out,decide_eq_false H5.out];rfl,HW.out.trans (hB.mono HW.out.size)⟩
   ·have H1000:=qK h1000;replace h1000:¬ (1000:Int) < (n3:Int):=by omega
    have HRes2:=qK (show res=((imps.all fun x=>decide (x.name.length+x.path.length≤200))&&decide (0≤zY6 (plDs decls) 150)) from by
     rw[HRes.out,decide_eq_false H1000.out,decide_eq_false H20.out,decide_eq_false H5.out];rfl)
    apply zZ3 qF [isv _,isv _,isv _,isv _,isv _,isv _,isv _,isv _,isv _,isv _,isv _,isv _,isv _,(fun x W=>∃ g:Nat,x=.slice (some ⟨g,0,none⟩) 1 1∧Sl W W.heap.size 1 encS (some ⟨g,0,none⟩) [pkg]),isv _,isv _,isv _,isv _,(isv (.int .i64 (n3:Nat))),isv _,isv _] w1.heap.size w1 qJ qH.drew qF qF qF (qC (qC (qC (qC (qC (qC (qC (qC (qC (qC (qC (qC (qC (qA (fun _ _ _ ⟨g,e,h⟩ hb=>⟨g,e,(h.below hb).more hb.size⟩) (qC (qC (qC (qC (qC (qC (qC trivial))))))))))))))))))))) ?steps (by rfl) ?fin;case steps=>exact qA (qS 1) (qA (jI 0 5) (qA (qQ 1 6) (qA (qQ 2 7) (qA (qQ 3 8) (qA (qR 1 4 9) (qA (kO 4 9 5 10) (qA (qP 4 9 6 11) (qA (qP 4 9 7 12) (qA (qV 4 9 8 13) (qA (qQ 9 14) (qA (qR 1 10 15) (qA (yC 10 15 11 16) (qA (yE 10 15 12 17) (qA (jX 10 15 13 18) (qA (qR 1 10 15) (qA (kO 10 15 15 20) (qA (yD 10 15 16 21) (qA (jV 10 15 14 19 17 22) (qA (qP 10 15 18 23) (qA (qV 10 15 19 24) trivial))))))))))))))))))))
    case fin=>
     intro w2 hB
     iterate 13 refine qN ?_
     refine zZ4 18 rfl ?_;rintro _ ⟨_,rfl,_⟩
     iterate 4 refine qN ?_
     refine zZ4 23 rfl ?_;rintro _ rfl
     iterate 2 refine qN ?_
     refine zV5 ?_;have HB2:=qK hB;have f1:=(HBx.out.keep hB).cell 1;clear hB HRes;go_upto_region 4 with fail
     clear f1;go_loopw [29] (fun iv wq=>∃ i:Nat,i≤imps.length∧iv=.int .i64 (i:Nat)∧Hid (((imps.take i).all fun x=>decide (x.name.length+x.path.length≤200))=true)∧Hid (Below w1.heap.size w1 wq)) (fun iv _=>imps.length-(intOf iv).toNat)
     case atStart=>exact⟨0,Nat.zero_le _,rfl,qK (by simp),HB2⟩
     case round=>
      clear HB2;obtain⟨i,hi,rfl,HM,HB⟩:=hrel;by_cases hlt:i < imps.length
      ·have hlt':(i:Int) < (imps.length:Int):=by omega
       obtain⟨bb,off,hA,hbW,hc⟩:=HI.out.at_ hlt;have HTk:=qK (show ((imps.take (i+1)).all fun x=>decide (x.name.length+x.path.length≤200))=decide ((imps[i]).name.length+(imps[i]).path.length≤200) from by
        rw[List.take_succ_eq_append_getElem hlt,List.all_append,HM.out];simp)
       have HNo:=qK (show 200 < (imps[i]).name.length+(imps[i]).path.length→(imps.all fun x=>decide (x.name.length+x.path.length≤200))=false from fun h=>by
        rw[List.all_eq_false];exact⟨imps[i],List.getElem_mem hlt,by simpa using h⟩)
       obtain⟨hx1,hx2⟩:=HNm.out _ (List.getElem_mem hlt);generalize imps[i]=x at hc HTk HNo hx1 hx2;obtain⟨xn,xp,xpos⟩:=x;have c0:=zZ0 HB.out hbW (hc 0 _ rfl);have c1:=zZ0 HB.out hbW (hc 1 _ rfl);have c2:=zZ0 HB.out hbW (hc 2 _ rfl);dsimp only[Nat.add_zero] at c0 c1 c2 HTk HNo hx1 hx2;have hba:=(Below.refl wr.heap.size wr).alloc qJ (.cells #[.string ⟨xn.toArray⟩,.string ⟨xp.toArray⟩,.int .i64 xpos] 60);have B1:=qK (Blk.new wr 60 #[.string ⟨xn.toArray⟩,.string ⟨xp.toArray⟩,.int .i64 xpos]);have HB1:=qK (HB.out.trans (hba.mono HB.out.size));go_upto_region 6 with fail
       clear c0 c1 c2 hbW hA hba hc HB;obtain⟨gx,hgx⟩:∃ gx,gx=wr.heap.size:=⟨_,rfl⟩;rw[←hgx] at B1 ⊢;generalize wr.alloc (.cells #[.string ⟨xn.toArray⟩,.string ⟨xp.toArray⟩,.int .i64 xpos] 60)=wb at B1 HB1 ⊢;clear hgx;have e0:=B1.out.cell 0;have e1:=B1.out.cell 1;by_cases h200:200 < xn.length+xp.length
       ·have HF:=qK (HNo.out h200);have h200':(200:Int) < (xn.length:Int)+(xp.length:Int):=by omega
        go_wp2;go_ret;exact⟨by rw[HRes2.out,HF.out];rfl,HW.out.trans (HB1.out.mono HW.out.size)⟩
       ·have HF:=qK (HTk.out.trans (decide_eq_true qG));have h200':¬ (200:Int) < (xn.length:Int)+(xp.length:Int):=by omega
        go_wp2;go_roundw
        case rel=>exact⟨i+1,by omega,by go_num,HF,HB1⟩
        case measure=>simp[intOf];omega
      ·obtain rfl:i=imps.length:=by omega
       rw[List.take_length] at HM;have f2:=((Kp.low HB.out).blk HBx.out (by have:=HBl.out;omega)).cell 2;have cD:=HCo.out Ad cd B 150 wr HDt.out.1 qG ((HDs.out.below HB.out).more HB.out.size) HDt.out.2 ((zP7 HB.out).2.2.2 _ HTr.out);have HRes3:=qK (show res=decide (0≤zY6 (plDs decls) 150) from by rw[HRes2.out,HM.out];rfl);generalize zY6 (plDs decls) 150=K at cD HRes3;go_wp2_with fail
       refine cD.mono ?_;rintro r w4 ⟨rfl,hb4⟩;have HB4:=qK (HW.out.trans ((HB.out.trans (hb4.mono HB.out.size)).mono HW.out.size));clear cD hb4 f2;go_wp2;go_ret;exact⟨by rw[HRes3.out];rfl,HB4.out⟩
structure InP (w:World)(B:Nat)(p:PA):Prop where
 path:p.path.length≤B
 files:Sl w w.heap.size 4 encF p.A p.files
 nf:p.files.length≤p.c∧p.files.length≤B
 each:∀ f∈p.files,InF w B f
theorem InP.keep {w w':World}{B:Nat}{p:PA}(h:InP w B p)(hb:Below w.heap.size w w'):InP w' B p:=⟨h.path,(h.files.below hb).more hb.size,h.nf,fun f hf=>(h.each f hf).keep hb⟩
set_option maxRecDepth 100000 in
set_option maxHeartbeats 4000000 in
theorem xT4 (B:Nat)(p:PA)(w:World)(hB:B≤1099511627776)(hP:InP w B p):Calls Tryz.prog 12 #[.agg #[.string ⟨p.path.toArray⟩,.slice p.A p.files.length p.c]] w fun e w'=>e=.returned (.bool (smP (plP p)))∧Below w.heap.size w w':=by
 obtain⟨path,A,c,files⟩:=p;have hb:=(Below.refl w.heap.size w).alloc qJ (.cells #[.string ⟨path.toArray⟩,.slice A files.length c] 24);have HBx:=qK (Blk.new w 24 #[.string ⟨path.toArray⟩,.slice A files.length c]);have HW:=qK hb;obtain⟨_,hf,⟨_,hnf⟩,he⟩:=hP.keep hb;have hnf2:files.length≤1099511627776:=Nat.le_trans hnf hB;have HFs:=qK hf;have HE:=qK he;have HBB:=qK hB;have HRes:=qK (show smP (plP ⟨path,A,c,files⟩)=(((files.map plF).all smF)&&decide (files.length≤3)) from by
  unfold smP plP;rw[List.length_map])
 generalize smP (plP ⟨path,A,c,files⟩)=res at HRes ⊢;clear hb hP hf hnf he hB;go_enter Tryz.func12,Tryz.ntmps12
 go_upto_region 1 with fail
 generalize hw1:w.alloc (.cells #[.string ⟨path.toArray⟩,.slice A files.length c] 24)=w1 at HBx HW HFs HE ⊢;clear hw1;have HBl:=qK (show w.heap.size < w1.heap.size from HBx.out.lt);have f1:=HBx.out.cell 1;go_upto_region 2 with fail
 clear f1;go_loopw [8] (fun iv wq=>∃ i:Nat,i≤files.length∧iv=.int .i64 (i:Nat)∧Hid ((((files.take i).map plF).all smF)=true)∧Hid (Below w1.heap.size w1 wq)) (fun iv _=>files.length-(intOf iv).toNat)
 case atStart=>exact⟨0,Nat.zero_le _,rfl,qK (by simp),qK qH⟩
 case round=>
  obtain⟨i,hi,rfl,HM,HB⟩:=hrel;by_cases hlt:i < files.length
  ·have hlt':(i:Int) < (files.length:Int):=by omega
   obtain⟨bb,off,hA,hbW,hc⟩:=HFs.out.at_ hlt;have HTk:=qK (show (((files.take (i+1)).map plF).all smF)=smF (plF files[i]) from by
    rw[List.take_succ_eq_append_getElem hlt,List.map_append,List.all_append,HM.out];simp)
   have HNo:=qK (show smF (plF files[i])=false→((files.map plF).all smF)=false from fun h=>by
    rw[List.all_eq_false];exact⟨_,List.mem_map.2 ⟨files[i],List.getElem_mem hlt,rfl⟩,by simp[h]⟩)
   have HIn:=qK (HE.out _ (List.getElem_mem hlt));generalize files[i]=x at hc HTk HNo HIn;have HX:=qK (fun W h=>yP1 B x W HBB.out h);generalize smF (plF x)=r at HTk HNo HX;obtain⟨xpkg,xAi,xci,ximps,xAd,xcd,xdecls,xAt,xct,xtail⟩:=x;have c0:=zZ0 HB.out hbW (hc 0 _ rfl);have c1:=zZ0 HB.out hbW (hc 1 _ rfl);have c2:=zZ0 HB.out hbW (hc 2 _ rfl);have c3:=zZ0 HB.out hbW (hc 3 _ rfl);dsimp only[Nat.add_zero] at c0 c1 c2 c3;have hba:=(Below.refl wr.heap.size wr).alloc qJ (.cells #[.string ⟨xpkg.toArray⟩,.slice xAi ximps.length xci,.slice xAd xdecls.length xcd,.slice xAt xtail.length xct] 58);have B1:=qK (Blk.new wr 58 #[.string ⟨xpkg.toArray⟩,.slice xAi ximps.length xci,.slice xAd xdecls.length xcd,.slice xAt xtail.length xct]);have HB1:=qK (HB.out.trans (hba.mono HB.out.size));go_upto_region 4 with fail
   clear c0 c1 c2 c3 hbW hA hba hc HB;obtain⟨gx,hgx⟩:∃ gx,gx=wr.heap.size:=⟨_,rfl⟩;rw[←hgx] at B1 ⊢;generalize wr.alloc (.cells #[.string ⟨xpkg.toArray⟩,.slice xAi ximps.length xci,.slice xAd xdecls.length xcd,.slice xAt xtail.length xct] 58)=wb at B1 HB1 ⊢;clear hgx;have e0:=B1.out.cell 0;have e1:=B1.out.cell 1;have e2:=B1.out.cell 2;have e3:=B1.out.cell 3;have cS:=HX.out wb (HIn.out.keep HB1.out);simp only[encF] at cS;go_wp2_with fail
   refine cS.mono ?_;rintro e w4 ⟨rfl,hb4⟩;have HB4:=qK (HB1.out.trans (hb4.mono HB1.out.size));clear cS hb4 e0 e1 e2 e3;cases r
   ·have HF:=qK (HNo.out rfl);go_wp2;go_ret;exact⟨by rw[HRes.out,HF.out];rfl,HW.out.trans (HB4.out.mono HW.out.size)⟩
   ·go_wp2;go_roundw
    case rel=>exact⟨i+1,by omega,by go_num,HTk,HB4⟩
    case measure=>simp[intOf];omega
  ·obtain rfl:i=files.length:=by omega
   rw[List.take_length] at HM;have f1:=((Kp.low HB.out).blk HBx.out (by have:=HBl.out;omega)).cell 1;have HR:=qK (show res=decide (files.length≤3) from by rw[HRes.out,HM.out];rfl);have HF:=qK (HW.out.trans (HB.out.mono HW.out.size));by_cases h3:files.length≤3
   ·have HR3:=qK (HR.out.trans (decide_eq_true h3));replace h3:(files.length:Int)≤3:=by omega
    go_wp2;go_ret;exact⟨by rw[HR3.out];rfl,HF.out⟩
   ·have HR3:=qK (HR.out.trans (decide_eq_false h3));replace h3:¬ (files.length:Int)≤3:=by omega
    go_wp2;go_ret;exact⟨by rw[HR3.out];rfl,HF.out⟩
end Go.Proofs.YtdgehhgjgifikaaGreatDoor
