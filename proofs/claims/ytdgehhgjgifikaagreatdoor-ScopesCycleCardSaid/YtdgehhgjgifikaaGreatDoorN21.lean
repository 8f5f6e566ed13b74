/- What the claim needs of:YX ZA ZB ZC. -/
import Derived.Test.YtdgehhgjgifikaaGreatDoorN20
import Derived.StillTailTactics
namespace Go.Proofs.YtdgehhgjgifikaaGreatDoor
open Go.RowKit
def bodyD:DA→List DA
 | .mk _ _ _ _ _ _ _ _ _ _ body _ _ _ _ _ _ _ _=>body
section
variable {X:Type}{R:RF}{C:Clo X}{n:Nat}{U:UseR X}
set_option maxRecDepth 100000 in
set_option maxHeartbeats 16000000 in
theorem zG2 (l:List DA)(hl:∀ d∈l,(∀ x∈zU6 d,zP4 R C n U x)∧zR8 R C n U (bodyD d)):zR8 R C n U l:=by
 intro σ Im w s env v lp Al cl A c file hS hSl hOk hE hK hne hlp hf hd hdl
 obtain⟨vA,rfl⟩:∃ s,v=.pointer (some ⟨s,0,none⟩):=by
  cases env with
  | nil=>exact absurd rfl hne
  | cons x r=>exact⟨x.blk,hE.1.1⟩
 have X0:Dc0 R C n (s+vDs (l.drop 0)) σ Im w Al l env (.pointer (some ⟨vA,0,none⟩)) lp A σ Im w:=⟨(Fr.start (hS.less (by rw[List.drop_zero];exact Nat.le_refl _) (Nat.le_refl _))),hSl,hOk,hE,hK,hlp⟩
 have HX0:=Lib.hid X0
 have hll:=hSl.2.1
 have HF:=Lib.hid hf
 have HNe:=Lib.hid hne
 have HL:=Lib.hid hl
 have HD1:=Lib.hid hd
 have HD2:=Lib.hid hdl
 clear hS hSl hOk hE hK hne hlp hf hd hdl hl X0
 go_enter Tryz.func76,Tryz.ntmps76
 go_wp2
 go_loopw [11,20] (fun vS iv wr=>∃ (i:Nat) (σi:GS X) (Imi:Nat→Prop) (l':List DA) (AS:Option Addr) (cS:Nat),i≤l.length∧iv=.int .i64 (i:Nat)∧vS=.slice AS i cS∧Hid (l'.length=i)∧Hid (Dc0 R C n (s+vDs (l.drop i)) σ Im w Al l env (.pointer (some ⟨vA,0,none⟩)) lp A σi Imi wr)∧Hid (∀ q,(Value.slice AS i cS).ownBlock=some q→Mine (zn R C σi Imi) wr q∧w.heap.size≤q)∧Hid (Acc wr 0 71 11 (.slice AS i cS) l'.length (l'.flatMap encD)∧OkIds Imi wr l')∧Hid (zX7 R U (l.take i) env lp file σ σi l')) (fun _ iv _=>l.length-(intOf iv).toNat)
 case atStart=>exact⟨0,σ,Im,[],none,0,Nat.zero_le _,rfl,rfl,Lib.hid rfl,HX0,Lib.hid (fun q hq=>by cases hq),Lib.hid ⟨Acc.nil_ _ _ _ _,trivial⟩,Lib.hid (by rw[List.take_zero,zX7];exact⟨rfl,rfl⟩)⟩
 case round=>
  obtain⟨i,σi,Imi,l',AS,cS,hi,rfl,rfl,HLn,Xi,Mi,Ri,Vi⟩:=hrel
  obtain⟨wo,hwo⟩:∃ wo,wo=wr:=⟨_,rfl⟩
  subst hwo
  by_cases hlt:i < l.length
  ·have hlt':(i:Int) < (l.length:Int):=by omega
   have HM:=Lib.hid (List.getElem_mem hlt)
   have HTk:=Lib.hid (List.take_succ_eq_append_getElem hlt)
   have HDr:=Lib.hid (List.drop_eq_getElem_cons hlt)
   have HIx:=Lib.hid (OkIds.at_ Xi.out.ok (List.getElem_mem hlt))
   obtain⟨bb,off,hA,hbW,hc⟩:=Xi.out.sl.1.at_ hlt
   generalize l[i]=x at hc HM HTk HDr HIx
   obtain⟨dk,dpr,dl,da,db,dAs,dcs,dsubs,dAb,dcb,dbody,dAt,dct,dtail,dAl,dcl,dlead,dtr,dpos⟩:=x
   have c0:=hc 0 _ rfl
   have c1:=hc 1 _ rfl
   have c2:=hc 2 _ rfl
   have c3:=hc 3 _ rfl
   have c4:=hc 4 _ rfl
   have c5:=hc 5 _ rfl
   have c6:=hc 6 _ rfl
   have c7:=hc 7 _ rfl
   have c8:=hc 8 _ rfl
   have c9:=hc 9 _ rfl
   have c10:=hc 10 _ rfl
   simp only[Nat.add_zero] at c0
   clear hc
   have HAl:=Lib.hid hA
   have hba:=(Below.refl wo.heap.size wo).alloc (Nat.le_refl _) (.cells #[.int .i64 dk,.int .i64 dpr,.string ⟨dl.toArray⟩,.string ⟨da.toArray⟩,.string ⟨db.toArray⟩,.slice dAs dsubs.length dcs,.slice dAb dbody.length dcb,.slice dAt dtail.length dct,.slice dAl dlead.length dcl,.string ⟨dtr.toArray⟩,.int .i64 dpos] 71)
   have hsz:=Xi.out.fr.sp.kp.size
   have D0:=Lib.hid (show Dc1 R C n (s+vDs (l.drop i)) σ Im w Al l env (.pointer (some ⟨vA,0,none⟩)) lp A (.slice AS i cS) l' wo.heap.size #[.int .i64 dk,.int .i64 dpr,.string ⟨dl.toArray⟩,.string ⟨da.toArray⟩,.string ⟨db.toArray⟩,.slice dAs dsubs.length dcs,.slice dAb dbody.length dcb,.slice dAt dtail.length dct,.slice dAl dlead.length dcl,.string ⟨dtr.toArray⟩,.int .i64 dpos] (.mk dk dpr dl da db dAs dcs dsubs dAb dcb dbody dAt dct dtail dAl dcl dlead dtr dpos) σi Imi (wo.alloc (.cells #[.int .i64 dk,.int .i64 dpr,.string ⟨dl.toArray⟩,.string ⟨da.toArray⟩,.string ⟨db.toArray⟩,.slice dAs dsubs.length dcs,.slice dAb dbody.length dcb,.slice dAt dtail.length dct,.slice dAl dlead.length dcl,.string ⟨dtr.toArray⟩,.int .i64 dpos] 71)) from
    ⟨Xi.out.below hba,(show RowD R C w (.slice AS i cS) l' σi Imi wo from⟨Ri.out.1,Mi.out,Ri.out.2⟩).below hba,Blk.new wo 71 #[.int .i64 dk,.int .i64 dpr,.string ⟨dl.toArray⟩,.string ⟨da.toArray⟩,.string ⟨db.toArray⟩,.slice dAs dsubs.length dcs,.slice dAb dbody.length dcb,.slice dAt dtail.length dct,.slice dAl dlead.length dcl,.string ⟨dtr.toArray⟩,.int .i64 dpos],Xi.out.fr.st.zo.new_ (Nat.le_refl _) (by simp),fun q hq=>(Mi.out q hq).1.1,hsz,(zZ5 (N:=fun _=>False) (Kp.ofBelow hba _) (fun _ _ h=>h) (fun _ h=>h)).2.1 _ HIx.out⟩)
   have hls:dsubs.length≤1048576:=HIx.out.2.1.2.1
   have hlb:dbody.length≤1048576:=HIx.out.2.2.2.1.2.1
   have hlt7:dtail.length≤1048576:=HIx.out.2.2.2.2.2.1.2.1
   have hlt8:dlead.length≤1048576:=HIx.out.2.2.2.2.2.2.2.1
   have HB:=Lib.hid (show da.length≤maxLen∧db.length≤maxLen∧dtr.length≤maxLen∧dl.length≤maxLen∧(dk=4→dsubs.length=1) from⟨HIx.out.1.1.2.1,HIx.out.1.1.2.2.1,HIx.out.1.1.2.2.2,HIx.out.1.1.1,HIx.out.1.2⟩)
   have HV:=Lib.hid (show hEs dsubs+1≤hDs l∧hDs dbody+1≤hDs l from by have h:=hD_le HM.out;rw[hD] at h;omega)
   have HLl:=Lib.hid hll
   have HLs:=Lib.hid (show dsubs.length≤1048576∧dbody.length≤1048576∧dtail.length≤1048576∧dlead.length≤1048576 from⟨hls,hlb,hlt7,hlt8⟩)
   go_upto_region 5 with fail
   clear c0 c1 c2 c3 c4 c5 c6 c7 c8 c9 c10 hA hbW hba hsz HAl hlb hlt7 hlt8 Xi Ri Mi HIx
   generalize wo.alloc (.cells #[.int .i64 dk,.int .i64 dpr,.string ⟨dl.toArray⟩,.string ⟨da.toArray⟩,.string ⟨db.toArray⟩,.slice dAs dsubs.length dcs,.slice dAb dbody.length dcb,.slice dAt dtail.length dct,.slice dAl dlead.length dcl,.string ⟨dtr.toArray⟩,.int .i64 dpos] 71)=wb at D0 ⊢
   obtain⟨d0,d1,d2,d3,d4,d5,d6,d7,d8,d9,d10⟩:=zS6 D0.out.b
   go_wp2
   clear d0 d1 d2 d3 d4 d5 d6 d7 d8 d9 d10
   go_loopw [14,27] (fun vT jv wq=>∃ (j:Nat) (σj:GS X) (Imj:Nat→Prop) (m':List EA) (AT:Option Addr) (cT:Nat),j≤dsubs.length∧jv=.int .i64 (j:Nat)∧vT=.slice AT j cT∧Hid (m'.length=j)∧Hid (Dc1 R C n (s+vDs (l.drop (i+1))+vDs dbody+wEs (dsubs.drop j)) σ Im w Al l env (.pointer (some ⟨vA,0,none⟩)) lp A (.slice AS i cS) l' wo.heap.size #[.int .i64 dk,.int .i64 dpr,.string ⟨dl.toArray⟩,.string ⟨da.toArray⟩,.string ⟨db.toArray⟩,.slice dAs dsubs.length dcs,.slice dAb dbody.length dcb,.slice dAt dtail.length dct,.slice dAl dlead.length dcl,.string ⟨dtr.toArray⟩,.int .i64 dpos] (.mk dk dpr dl da db dAs dcs dsubs dAb dcb dbody dAt dct dtail dAl dcl dlead dtr dpos) σj Imj wq)∧Hid (RowE R C wo (.slice AT j cT) m' σj Imj wq)∧Hid (zW1 R U (dsubs.take j) 0 [] env lp file σi σj m')) (fun _ jv _=>dsubs.length-(intOf jv).toNat)
   case atStart=>
    refine⟨0,σi,Imi,[],none,0,Nat.zero_le _,rfl,rfl,Lib.hid rfl,Lib.hid (D0.out.less ?_),Lib.hid RowE.nil_,Lib.hid (by rw[List.take_zero,zW1];exact⟨rfl,rfl⟩)⟩
    rw[HDr.out,vDs,vD,List.drop_zero]
    omega
   case round=>
    obtain⟨j,σj,Imj,m',AT,cT,hj,rfl,rfl,HLm,Dj,Tj,Vj⟩:=hrel
    obtain⟨d0,d1,d2,d3,d4,d5,d6,d7,d8,d9,d10⟩:=zS6 Dj.out.b
    by_cases hjl:j < dsubs.length
    ·have hjl':(j:Int) < (dsubs.length:Int):=by omega
     have HMx:=Lib.hid (List.getElem_mem hjl)
     have HTx:=Lib.hid (List.take_succ_eq_append_getElem hjl)
     have HDx:=Lib.hid (List.drop_eq_getElem_cons hjl)
     have HIy:=Lib.hid (OkIs.at_ Dj.out.i.2.2.1 (List.getElem_mem hjl))
     obtain⟨bb2,off2,hA2,hbW2,hc⟩:=Dj.out.i.2.1.1.at_ hjl
     generalize dsubs[j]=x at hc HMx HTx HDx HIy
     obtain⟨xk,xt,xn,xa,xb,xAs,xcs,xsubs,xAd,xcd,xdecls,xAt,xct,xtail,xpos⟩:=x
     have c0:=hc 0 _ rfl
     have c1:=hc 1 _ rfl
     have c2:=hc 2 _ rfl
     have c3:=hc 3 _ rfl
     have c4:=hc 4 _ rfl
     have c5:=hc 5 _ rfl
     have c6:=hc 6 _ rfl
     have c7:=hc 7 _ rfl
     have c8:=hc 8 _ rfl
     simp only[Nat.add_zero] at c0
     clear hc
     rw[hA2] at d5
     have hbx:=(Below.refl wr.heap.size wr).alloc (Nat.le_refl _) (.cells #[.int .i64 xk,.string ⟨xt.toArray⟩,.int .i64 xn,.string ⟨xa.toArray⟩,.string ⟨xb.toArray⟩,.slice xAs xsubs.length xcs,.slice xAd xdecls.length xcd,.slice xAt xtail.length xct,.int .i64 xpos] 67)
     have Dx:=Lib.hid (Dj.out.below hbx)
     have Tx:=Lib.hid (Tj.out.below hbx)
     have Iy:=Lib.hid ((zZ5 (N:=fun _=>False) (Kp.ofBelow hbx _) (fun _ _ h=>h) (fun _ h=>h)).1 _ HIy.out)
     have Ex:=Lib.hid (Blk.new wr 67 #[.int .i64 xk,.string ⟨xt.toArray⟩,.int .i64 xn,.string ⟨xa.toArray⟩,.string ⟨xb.toArray⟩,.slice xAs xsubs.length xcs,.slice xAd xdecls.length xcd,.slice xAt xtail.length xct,.int .i64 xpos])
     have Zx:=Lib.hid (show wo.heap.size+2≤(wr.alloc (.cells #[.int .i64 xk,.string ⟨xt.toArray⟩,.int .i64 xn,.string ⟨xa.toArray⟩,.string ⟨xb.toArray⟩,.slice xAs xsubs.length xcs,.slice xAd xdecls.length xcd,.slice xAt xtail.length xct,.int .i64 xpos] 67)).heap.size from by have:=Dj.out.m.1;simp;omega)
     go_upto_region 9 with fail
     clear c0 c1 c2 c3 c4 c5 c6 c7 c8 hA2 hbW2 hbx
     clear d0 d1 d2 d3 d4 d5 d6 d7 d8 d9 d10
     generalize wr.alloc (.cells #[.int .i64 xk,.string ⟨xt.toArray⟩,.int .i64 xn,.string ⟨xa.toArray⟩,.string ⟨xb.toArray⟩,.slice xAs xsubs.length xcs,.slice xAd xdecls.length xcd,.slice xAt xtail.length xct,.int .i64 xpos] 67)=wz at Dx Tx Iy Ex Zx ⊢
     have hwd:wEs (dsubs.drop j)=wE (.mk xk xt xn xa xb xAs xcs xsubs xAd xcd xdecls xAt xct xtail xpos)+wEs (dsubs.drop (j+1)):=by rw[HDx.out,wEs]
     have hhx:hE (.mk xk xt xn xa xb xAs xcs xsubs xAd xcd xdecls xAt xct xtail xpos)≤hEs dsubs:=hE_le HMx.out
     have cX:=Lib.hid ((HL.out _ HM.out).1 _ HMx.out σj Imj wz (s+vDs (l.drop (i+1))+vDs dbody+wEs (dsubs.drop (j+1))) env (.pointer (some ⟨vA,0,none⟩)) lp A c file (Dx.out.x.fr.st.less (by omega) (Nat.le_refl _)) Iy.out Dx.out.x.en Dx.out.x.kn HNe.out Dx.out.x.lp HF.out (by have:=HD1.out;have:=HV.out;omega) (by have:=HD2.out;have:=HV.out;omega))
     obtain⟨q0,q1,q2,q3,q4,q5,q6,q7,q8⟩:=zZ6 Ex.out
     go_wp2_with fail
     refine cX.out.mono ?_
     rintro e w3 ⟨σ',Im3,e',rfl,hV3,hS3,hQ3,hG3,hO3⟩
     have D3:=Lib.hid ((Dx.out.less (s':=s+vDs (l.drop (i+1))+vDs dbody+wEs (dsubs.drop (j+1))) (by omega)).step hS3 hQ3 hG3)
     have T3:=Lib.hid (Tx.out.step Dx.out.x.fr.st.zo hQ3)
     have V3:=Lib.hid hV3
     have O3:=Lib.hid hO3
     have Z3:=Lib.hid (show wo.heap.size+2≤w3.heap.size from Nat.le_trans Zx.out hQ3.kp.size)
     have hl1:m'.length=j:=HLm.out
     clear cX hV3 hS3 hQ3 hG3 hO3 q0 q1 q2 q3 q4 q5 q6 q7 q8 hwd hhx Dx Tx Iy Ex Zx
     cases e' with
     | mk yk yt yn ya yb yAs ycs ysubs yAd ycd ydecls yAt yct ytail ypos=>
       dsimp only[encE]
       go_wp2_with (at_builtin;refine zU1 _ rfl (.tmp 31) (.tmp 38) 65 rfl 0 67 9 144 elExpr _ _ _ rfl (T3.out.ac.alloc _) _ 1 _ _ rfl (Src.lit _ 9 _ _ 1 rfl) (by simp[Value.oneCell']) (by simp only[maxLen];omega) (by omega) (Nat.zero_le _) ?_;intro v' w4 hacc' hg' _ _ hob')
       obtain⟨T4,hK4⟩:=T3.out.app D3.out.x.fr.st.zo Z3.out O3.out (by simpa[encE] using hacc') hg' hob'
       have D4:=D3.out.write hK4 fun q hq=>⟨(T3.out.ma q hq).1,by have:=(T3.out.ma q hq).2;omega⟩
       obtain⟨A4,c4,hv4⟩:=hacc'.shape
       subst hv4
       refine⟨⟨j+1,σ',Im3,m'++ [.mk yk yt yn ya yb yAs ycs ysubs yAd ycd ydecls yAt yct ytail ypos],A4,c4,by omega,by go_num,by rw[HLm.out],Lib.hid (by rw[List.length_append,HLm.out];rfl),Lib.hid D4,Lib.hid (by rw[←hl1];exact T4),Lib.hid ?_⟩,by simp[intOf];omega⟩
       rw[HTx.out]
       refine zG0 Vj.out ?_
       rw[show (if 0+(dsubs.take j).length=0 then[] else[])=([]:List Tx) from by split <;> rfl,List.append_nil]
       exact V3.out
    ·obtain rfl:j=dsubs.length:=by omega
     have Vj2:=Lib.hid (show zW1 R U dsubs 0 [] env lp file σi σj m' from by have h:=Vj.out;rw[List.take_length] at h;exact h)
     have S5:=(show RowE R C wo (.slice AT m'.length cT) m' σj Imj wr from by rw[HLm.out];exact Tj.out).resD (by rw[HLm.out];exact hls)
     rw[HLm.out] at S5
     have D5:=(Dj.out.less (s':=s+vDs (l.drop (i+1))+vDs dbody) (by omega)).freeze (F:=fun q=>(Value.slice AT dsubs.length cT).ownBlock=some q) fun q hq=>⟨(Tj.out.ma q hq).1,by have:=(Tj.out.ma q hq).2;omega⟩
     obtain⟨Im5,hIm5⟩:∃ Im5:Nat→Prop,Im5=fun b=>Imj b∨(Value.slice AT dsubs.length cT).ownBlock=some b:=⟨_,rfl⟩
     rw[←hIm5] at D5 S5
     have HD5:=Lib.hid D5
     have HS5:=Lib.hid S5
     clear hIm5 D5 S5 Dj Tj Vj
     obtain⟨b6,hb6⟩:∃ b6,(dk == 6)=b6:=⟨_,rfl⟩
     have H6:=Lib.hid hb6
     go_upto_if 44 with fail
     clear hb6
     clear d0 d1 d2 d3 d4 d5 d6 d7 d8 d9 d10
     go_cut [17] from 45 to 49 (fun cv wx=>∃ (Im2:Nat→Prop) (A2:Option Addr) (n2 c2:Nat),cv=.slice A2 n2 c2∧Hid (n2=(lp++if dk=6 then[da,db] else[]).length)∧Hid (Dc1 R C n (s+vDs (l.drop (i+1))+vDs dbody) σ Im w Al l env (.pointer (some ⟨vA,0,none⟩)) lp A (.slice AS i cS) l' wo.heap.size #[.int .i64 dk,.int .i64 dpr,.string ⟨dl.toArray⟩,.string ⟨da.toArray⟩,.string ⟨db.toArray⟩,.slice dAs dsubs.length dcs,.slice dAb dbody.length dcb,.slice dAt dtail.length dct,.slice dAl dlead.length dcl,.string ⟨dtr.toArray⟩,.int .i64 dpos] (.mk dk dpr dl da db dAs dcs dsubs dAb dcb dbody dAt dct dtail dAl dcl dlead dtr dpos) σj Im2 wx)∧Hid (ResD AT m' none [] none [] none [] Im2 wx)∧Hid (SlI Im2 wx 1 encS A2 (lp++if dk=6 then[da,db] else[])))
     case first=>
      cases b6
      ·have HNm:=Lib.hid (show (lp++if dk=6 then[da,db] else[])=lp from by
        have h:dk≠6:=by have:=H6.out;simpa using this
        rw[if_neg h,List.append_nil])
       go_wp2_with fail
       go_meet
       case rel=>exact⟨Im5,A,_,c,rfl,Lib.hid (by rw[HNm.out]),HD5,HS5,Lib.hid (by rw[HNm.out];exact HD5.out.x.lp)⟩
      ·have HNm:=Lib.hid (show (lp++if dk=6 then[da,db] else[])=lp++ [da,db] from by
        have h:dk=6:=by have:=H6.out;simpa using this
        rw[if_pos h])
       obtain⟨d0,d1,d2,d3,d4,d5,d6,d7,d8,d9,d10⟩:=zS6 HD5.out.b
       have hd2:=HD2.out
       go_wp2_with fail
       have hbL:=(Below.refl wr.heap.size wr).alloc (Nat.le_refl _) (.cells #[.slice A lp.length c,.slice (some ⟨wo.heap.size,3,none⟩) 2 2] 44)
       have hsL:(wr.alloc (.cells #[.slice A lp.length c,.slice (some ⟨wo.heap.size,3,none⟩) 2 2] 44)).heap.size=wr.heap.size+1:=by simp
       have cN:=yY0 wr.heap.size 44 A c lp (some ⟨wo.heap.size,3,none⟩) 2 [da,db] (wr.alloc (.cells #[.slice A lp.length c,.slice (some ⟨wo.heap.size,3,none⟩) 2 2] 44)) (Blk.new wr _ _) ((HD5.out.x.lp.1.below hbL).more hbL.size) (sl_two (HD5.out.b.alloc _) (zY3 hbL d3) (zY3 hbL d4)) (by omega) (by simp) (by simp)
       refine cN.mono ?_
       rintro e w5 ⟨A2,c2,rfl,hS5,hb5,hn5⟩
       have hb6:Below wr.heap.size wr w5:=hbL.trans (hb5.mono hbL.size)
       have hF5:=yV9 (A':=A2) (xs:=lp++ [da,db]) HD5.out.x.fr.st.zo hS5.1 (fun a ha=>by have:=hn5 a ha;rw[hsL] at this;omega)
       have hgs:=HD5.out.m.1
       have D6:=(HD5.out.below hb6).freeze (F:=fun q=>lp++ [da,db]≠[]∧∃ ad,A2=some ad∧ad.block=q) fun q hq=>⟨(hF5 q hq).1,by have:=(hF5 q hq).2;omega⟩
       have S6:=HS5.out.kept (N:=fun _=>False) (Kp.ofBelow hb6 _) (fun _ _ h=>h) (fun q (h:Im5 q)=>(Or.inl h:Im5 q∨(lp++ [da,db]≠[]∧∃ ad,A2=some ad∧ad.block=q)))
       have HC:=Lib.hid (show ∃ (Im2:Nat→Prop) (A':Option Addr) (n2 c':Nat),Value.slice A2 (lp++ [da,db]).length c2=.slice A' n2 c'∧Hid (n2=(lp++if dk=6 then[da,db] else[]).length)∧Hid (Dc1 R C n (s+vDs (l.drop (i+1))+vDs dbody) σ Im w Al l env (.pointer (some ⟨vA,0,none⟩)) lp A (.slice AS i cS) l' wo.heap.size #[.int .i64 dk,.int .i64 dpr,.string ⟨dl.toArray⟩,.string ⟨da.toArray⟩,.string ⟨db.toArray⟩,.slice dAs dsubs.length dcs,.slice dAb dbody.length dcb,.slice dAt dtail.length dct,.slice dAl dlead.length dcl,.string ⟨dtr.toArray⟩,.int .i64 dpos] (.mk dk dpr dl da db dAs dcs dsubs dAb dcb dbody dAt dct dtail dAl dcl dlead dtr dpos) σj Im2 w5)∧Hid (ResD AT m' none [] none [] none [] Im2 w5)∧Hid (SlI Im2 w5 1 encS A' (lp++if dk=6 then[da,db] else[])) from
        ⟨_,A2,_,c2,rfl,Lib.hid (by rw[HNm.out]),Lib.hid D6,Lib.hid S6,Lib.hid (by rw[HNm.out];exact sl_fr (Im:=Im5) hS5.1 (by rw[List.length_append,List.length_cons,List.length_cons,List.length_nil];omega))⟩)
       clear cN hS5 hb5 hn5 hb6 hF5 D6 S6 hbL hsL hgs
       clear d0 d1 d2 d3 d4 d5 d6 d7 d8 d9 d10
       generalize hn2:(lp++ [da,db]).length=nn2 at HC
       go_wp2_with fail
       go_meet
       case rel=>exact HC.out
     obtain⟨Im2,A2,n2,c2,rfl,HN2,D2,S2,L2⟩:=hcut
     obtain⟨lp2,hlp2⟩:∃ lp2,lp2=(lp++if dk=6 then[da,db] else[]):=⟨_,rfl⟩
     have HLp:=Lib.hid hlp2
     rw[←hlp2] at HN2 L2
     obtain rfl:=HN2.out
     have hlen2:lp2.length≤lp.length+2:=by
      rw[hlp2,List.length_append]
      split <;> simp
     have HLen:=Lib.hid hlen2
     clear hlp2 HN2 hlen2
     obtain⟨d0,d1,d2,d3,d4,d5,d6,d7,d8,d9,d10⟩:=zS6 D2.out.b
     have f5:=D2.out.b.free 5
     have D6:=Lib.hid ((D2.out.setB 5 (.slice AT dsubs.length cT)).cast (E':=#[.int .i64 dk,.int .i64 dpr,.string ⟨dl.toArray⟩,.string ⟨da.toArray⟩,.string ⟨db.toArray⟩,.slice AT dsubs.length cT,.slice dAb dbody.length dcb,.slice dAt dtail.length dct,.slice dAl dlead.length dcl,.string ⟨dtr.toArray⟩,.int .i64 dpos]) (by simp))
     have S6:=Lib.hid (S2.out.setB D2.out.m 5 (.slice AT dsubs.length cT))
     have L6:=Lib.hid (L2.out.kept ((Kp.refl (· = wo.heap.size) wc).setCell (p:=⟨wo.heap.size,5,none⟩) rfl (.slice AT dsubs.length cT)) (fun q hq e=>D2.out.m.2.2 (e▸hq)) (fun _ h=>h))
     go_upto_region 15 with fail
     clear d0 d1 d2 d3 d4 d5 d6 d7 d8 d9 d10
     clear f5 D2 S2 L2
     generalize wc.setCell ⟨wo.heap.size,5,none⟩ (.slice AT dsubs.length cT)=w5 at D6 S6 L6 ⊢
     have cB:=Lib.hid ((HL.out _ HM.out).2 σj Im2 w5 (s+vDs (l.drop (i+1))) env (.pointer (some ⟨vA,0,none⟩)) lp2 dAb dcb A2 c2 file (D6.out.x.fr.st.less (by show _+vDs dbody≤_;exact Nat.le_refl _) (Nat.le_refl _)) D6.out.i.2.2.2.1 D6.out.i.2.2.2.2.1 D6.out.x.en D6.out.x.kn HNe.out L6.out HF.out (by show _+hDs dbody≤_;have:=HD1.out;have:=HV.out;omega) (by show _+2*hDs dbody≤_;have:=HD2.out;have:=HV.out;have:=HLen.out;omega))
     obtain⟨d0,d1,d2,d3,d4,d5,d6,d7,d8,d9,d10⟩:=zS6 D6.out.b
     go_wp2_with fail
     refine cB.out.mono ?_
     rintro e w6 ⟨σ',ImB,lbs,AB,cB',rfl,hVd,hSt,hSp,hGr,hSl,hOk⟩
     clear d0 d1 d2 d3 d4 d5 d6 d7 d8 d9 d10
     have DB:=(D6.out.less (s':=s+vDs (l.drop (i+1))) (by omega)).step hSt hSp hGr
     have SB:=S6.out.kept hSp.kp (fun q hq hm=>(D6.out.x.fr.st.zo.mu q hm).2 hq) hSp.im
     have SE0:ResD AT m' AB lbs none [] none [] ImB w6:=⟨SB.sl,SB.ok,hSl,hOk,SB.tl,SB.le⟩
     have DE:=Lib.hid ((DB.setB 6 (.slice AB lbs.length cB')).cast (E':=#[.int .i64 dk,.int .i64 dpr,.string ⟨dl.toArray⟩,.string ⟨da.toArray⟩,.string ⟨db.toArray⟩,.slice AT dsubs.length cT,.slice AB lbs.length cB',.slice dAt dtail.length dct,.slice dAl dlead.length dcl,.string ⟨dtr.toArray⟩,.int .i64 dpos]) (by simp))
     have SE:=Lib.hid (SE0.setB DB.m 6 (.slice AB lbs.length cB'))
     have VB:=Lib.hid hVd
     obtain⟨d0,d1,d2,d3,d4,d5,d6,d7,d8,d9,d10⟩:=zS6 DB.b
     have f6:=DB.b.free 6
     clear hVd hSt hSp hGr hSl hOk DB SB SE0 cB
     go_upto_region 16 with fail
     clear d0 d1 d2 d3 d4 d5 d6 d7 d8 d9 d10
     clear f6 D6 S6 L6
     generalize w6.setCell ⟨wo.heap.size,6,none⟩ (.slice AB lbs.length cB')=wE at DE SE ⊢
     go_cut [] from 60 to 67 (fun wx=>∃ (Im9:Nat→Prop) (A7 A8:Option Addr) (c7 c8:Nat),Hid (Dc1 R C n (s+vDs (l.drop (i+1))) σ Im w Al l env (.pointer (some ⟨vA,0,none⟩)) lp A (.slice AS i cS) l' wo.heap.size #[.int .i64 dk,.int .i64 dpr,.string ⟨dl.toArray⟩,.string ⟨da.toArray⟩,.string ⟨db.toArray⟩,.slice AT dsubs.length cT,.slice AB lbs.length cB',.slice A7 dtail.length c7,.slice A8 dlead.length c8,.string ⟨dtr.toArray⟩,.int .i64 dpos] (.mk dk dpr dl da db dAs dcs dsubs dAb dcb dbody dAt dct dtail dAl dcl dlead dtr dpos) σ' Im9 wx)∧Hid (ResD AT m' AB lbs A7 dtail A8 dlead Im9 wx))
     case first=>
      have hbd:=(Below.refl wE.heap.size wE).drew
      have DF:=Lib.hid (DE.out.below hbd)
      have SF:=Lib.hid (SE.out.kept (N:=fun _=>False) (Kp.ofBelow hbd _) (fun _ _ h=>h) (fun _ h=>h))
      have hL8:=DF.out.i.2.2.2.2.2.2.n
      have hL7:=DF.out.i.2.2.2.2.2.1.n
      obtain⟨d0,d1,d2,d3,d4,d5,d6,d7,d8,d9,d10⟩:=zS6 DE.out.b
      have HSl:=Lib.hid (show dtail.length≤1048576∧dlead.length≤1048576 from HLs.out.2.2)
      clear hbd hll
      have cL:=zL1 dAl dcl dlead wE.drew hL8
      go_region_with (first
       | (refine cL.mono ?_;rintro e w7 ⟨A8,c8,rfl,hS8,hb8,hn8⟩;have e7:=(DF.out.b.keep hb8).cell 7;have hT7:=SlN.more (hL7.below hb8) hb8.size;have cT:=zL1 dAt dct dtail w7 hT7)
       | (refine cT.mono ?_;rintro e w8 ⟨A7,c7,rfl,hS7,hb7,hn7⟩;have hB8:=(DF.out.b.keep hb8).keep hb7;have x8:=hB8.cell 8;have x7:=hB8.cell 7;have y8:=hB8.free 8;have y7:=hB8.free 7;have HC:=Lib.hid (DF.out.clones (c7:=c7) (c8:=c8) SF.out HSl.out.2 HSl.out.1 hS8 hb8 hn8 hS7 hb7 hn7)))
      all_goals
       obtain⟨Im9,D9,S9⟩:=HC.out
       go_wp2_with fail
       go_meet
       exact⟨Im9,A7,A8,c7,c8,Lib.hid D9,Lib.hid S9⟩
     obtain⟨Im9,A7,A8,c7,c8,D9,S9⟩:=hcut
     have O9:=Lib.hid (show OkId Im9 wc (.mk dk dpr dl da db AT cT m' AB cB' lbs A7 c7 dtail A8 c8 dlead dtr dpos) from⟨⟨⟨HB.out.2.2.2.1,HB.out.1,HB.out.2.1,HB.out.2.2.1⟩,fun h=>by rw[HLm.out];exact HB.out.2.2.2.2 h⟩,S9.out.sl,S9.out.ok,S9.out.bl,S9.out.bo,S9.out.tl,S9.out.le⟩)
     have VD:=Lib.hid (show VisD R U (.mk dk dpr dl da db dAs dcs dsubs dAb dcb dbody dAt dct dtail dAl dcl dlead dtr dpos) env lp file σi σ' (.mk dk dpr dl da db AT cT m' AB cB' lbs A7 c7 dtail A8 c8 dlead dtr dpos) from by
      rw[VisD]
      exact⟨σj,m',lbs,AT,cT,AB,cB',A7,c7,A8,c8,Vj2.out,by rw[←HLp.out];exact VB.out,rfl⟩)
     have Z9:=Lib.hid (show w.heap.size≤wc.heap.size from D9.out.x.fr.sp.kp.size)
     clear S9 SE DE HLp VB Vj2 H6 HD5 HS5
     obtain⟨d0,d1,d2,d3,d4,d5,d6,d7,d8,d9,d10⟩:=zS6 D9.out.b
     have hl1:l'.length=i:=HLn.out
     have hll2:l.length≤1048576:=HLl.out
     go_wp2_with (at_builtin;refine zU1 _ rfl (.tmp 68) (.tmp 70) 56 rfl 0 71 11 184 yP0 _ _ _ rfl (D9.out.r.ac.alloc _) _ 1 _ _ rfl (Src.lit _ 11 _ _ 1 rfl) (by simp[Value.oneCell']) (by simp only[maxLen];omega) (by omega) (Nat.zero_le _) ?_;intro v' w4 hacc' hg' _ _ hob')
     clear d0 d1 d2 d3 d4 d5 d6 d7 d8 d9 d10
     obtain⟨R4,hK4⟩:=D9.out.r.app D9.out.x.fr.st.zo Z9.out O9.out (by rw[encD,HLm.out];simpa using hacc') hg' hob'
     have X4:=D9.out.x.write hK4 fun q hq=>D9.out.r.ma q hq
     obtain⟨A4,c4,hv4⟩:=hacc'.shape
     subst hv4
     have R5:=Lib.hid R4
     have X5:=Lib.hid X4
     clear R4 X4 hacc' hg' hob' hK4
     have hl3:l'.length+1=i+1:=by omega
     refine⟨⟨i+1,σ',Im9,l'++ [.mk dk dpr dl da db AT cT m' AB cB' lbs A7 c7 dtail A8 c8 dlead dtr dpos],A4,c4,by omega,by go_num,by rw[hl1],Lib.hid (by rw[List.length_append,HLn.out];rfl),X5,Lib.hid (by rw[←hl3];exact R5.out.ma),Lib.hid (by rw[←hl3];exact⟨R5.out.ac,R5.out.ok⟩),Lib.hid ?_⟩,by simp[intOf];omega⟩
     rw[HTk.out]
     exact yY4 Vi.out VD.out
  ·obtain rfl:i=l.length:=by omega
   have X5:=Xi.out.freeze (F:=fun q=>(Value.slice AS l.length cS).ownBlock=some q) fun q hq=>Mi.out q hq
   have hsl:SlI (fun b=>Imi b∨(Value.slice AS l.length cS).ownBlock=some b) wo 11 encD AS l':=⟨(zO1 zU9 (show Acc wo 0 71 11 (.slice AS l'.length cS) l'.length (l'.flatMap encD) from by rw[HLn.out];have h:=Ri.out.1;rw[HLn.out] at h;exact h) (by decide)).2,by rw[HLn.out];exact hll,.inr fun ad had=>by subst had;exact .inr rfl⟩
   have hok:=(zZ5 (N:=fun _=>False) (Kp.refl _ wo) (fun _ _ h=>h) (fun q (h:Imi q)=>(Or.inl h:Imi q∨(Value.slice AS l.length cS).ownBlock=some q))).2.2.2 _ Ri.out.2
   have HR:=Lib.hid (show xZ2 R C n s σ Im w (zX7 R U l env lp file σ) (.returned (.slice AS l.length cS)) wo from⟨σi,_,l',AS,cS,by rw[HLn.out],by have h:=Vi.out;rw[List.take_length] at h;exact h,X5.fr.st.less (by omega) (Nat.le_refl _),X5.fr.sp,X5.fr.gr,hsl,hok⟩)
   clear X5 hsl hok
   go_wp2
   go_ret
   exact HR.out
end
section
variable {X:Type}{R:RF}{C:Clo X}{n:Nat}{U:UseR X}{g:Nat}{lb:Array Value}
theorem yY6 (hU:R.use=.func (.func g) #[] lb)(eg:∀ args w,(callFunc g args).run Tryz.prog w=.ok (.enter g args) w)(hC:yV7 R C n U g lb) :
  (∀ e,zP4 R C n U e)∧(∀ d,(∀ x∈zU6 d,zP4 R C n U x)∧zR8 R C n U (bodyD d))∧(∀ l:List EA,∀ x∈l,zP4 R C n U x)∧∀ l:List DA,∀ d∈l,(∀ x∈zU6 d,zP4 R C n U x)∧zR8 R C n U (bodyD d):=
 zX4 (fun k t m a b As cs subs Ad cd decls At ct tail pos h1 h2=>by
   by_cases hk:k=10
   ·subst hk
    exact yL1 hU eg hC t m a b As cs subs Ad cd decls At ct tail pos
   ·exact yQ9 k t m a b As cs subs Ad cd decls At ct tail pos hk h1 (zG2 decls h2))
  (fun k p l a b As cs subs Ab cb body At ct tail Al cl lead tr pos h1 h2=>⟨h1,zG2 body h2⟩)
  (fun x hx=>by cases hx) (fun e l h1 h2 x hx=>by
   rcases List.mem_cons.1 hx with rfl | hx
   ·exact h1
   ·exact h2 x hx)
  (fun x hx=>by cases hx) (fun e l h1 h2 x hx=>by
   rcases List.mem_cons.1 hx with rfl | hx
   ·exact h1
   ·exact h2 x hx)
theorem yE3 (hU:R.use=.func (.func g) #[] lb)(eg:∀ args w,(callFunc g args).run Tryz.prog w=.ok (.enter g args) w)(hC:yV7 R C n U g lb)(e:EA):zP4 R C n U e:=(yY6 hU eg hC).1 e
theorem zK9 (hU:R.use=.func (.func g) #[] lb)(eg:∀ args w,(callFunc g args).run Tryz.prog w=.ok (.enter g args) w)(hC:yV7 R C n U g lb)(l:List DA):zR8 R C n U l:=zG2 l ((yY6 hU eg hC).2.2.2 l)
end
structure PkI (Im:Nat→Prop)(w:World)(R:RF)(files:List FA):Prop where
 len:R.nF=files.length
 sl:SlI Im w 4 encF R.FA files
 ds:∀ f∈files,SlI Im w 11 encD f.Ad f.decls∧OkIds Im w f.decls
 ts:∀ f∈files,SlI Im w 1 encS f.At f.tail∧SlI Im w 3 encI f.Ai f.imps
theorem PkI.kept {Im Im' N:Nat→Prop}{w w':World}{R:RF}{files:List FA}(h:PkI Im w R files)(hk:Kp N w w')(hN:∀ b,Im b→¬ N b)(hI:∀ b,Im b→Im' b):PkI Im' w' R files:=
 ⟨h.len,h.sl.kept hk hN hI,fun f hf=>⟨(h.ds f hf).1.kept hk hN hI,(zZ5 hk hN hI).2.2.2 _ (h.ds f hf).2⟩,fun f hf=>⟨(h.ts f hf).1.kept hk hN hI,(h.ts f hf).2.kept hk hN hI⟩⟩
theorem fileC {w:World}{g:Nat}{ty:TypeId}{v0 v1 v2 v3 v4 v5 v6 v7 v8:Value}(h:Blk w g ty #[v0,v1,v2,v3,v4,v5,v6,v7,v8]):w.cell? ⟨g,1,none⟩=some v1∧w.cell? ⟨g,2,none⟩=some v2:=⟨h.cell 1,h.cell 2⟩
section
variable {X:Type}{R:RF}{C:Clo X}{n:Nat}{U:UseR X}{g:Nat}{lb:Array Value}
set_option maxRecDepth 100000 in
set_option maxHeartbeats 4000000 in
theorem yU0 (files:List FA)(i:Nat)(hi:i < files.length)(hD:zR8 R C n U files[i].decls)(σ:GS X)(Im:Nat→Prop)(w:World)(s:Nat)(env:List ScA)(hS:St R C n (s+vDs files[i].decls) σ Im w)(hP:PkI Im w R files)
  (hE:EnvI Im w (.pointer (some ⟨R.root,0,none⟩)) env)(hK:EnvK σ.ρ.objs env)(hne:env≠[])(hf:i < R.uB.length)(hd:env.length+hDs files[i].decls≤1000) :
  Calls Tryz.prog 41 #[.pointer (some ⟨R.r,0,none⟩),.int .i64 (i:Nat)] w (xZ2 R C n s σ Im w (zX7 R U files[i].decls env [] i σ)):=by
 have hb:=(Below.refl w.heap.size w).drew
 have hk:=Kp.ofBelow hb (fun _=>False)
 have hsd:St R C n (s+vDs files[i].decls) σ Im w.drew:=hS.kept hk (fun _ h=>h.elim)
 have HW:=Lib.hid (show ∀ e w',xZ2 R C n s σ Im w.drew (zX7 R U files[i].decls env [] i σ) e w'→xZ2 R C n s σ Im w (zX7 R U files[i].decls env [] i σ) e w' from fun e w' ⟨σ',Im',l',A',c',h1,h2,h3,h4,h5,h6⟩=>⟨σ',Im',l',A',c',h1,h2,h3,Sp.trans ⟨Kp.ofBelow hb _,fun _ h=>.inl h,fun _ h=>h,fun _ h=>.inl h,hS.zo.size hb.size⟩ h4,⟨h5.ob,h5.en⟩,h6⟩)
 have cD:=Lib.hid (hD σ Im w.drew s env (.pointer (some ⟨R.root,0,none⟩)) [] files[i].Ad files[i].cd none 0 i hsd ((hP.ds _ (List.getElem_mem hi)).1.kept hk (fun _ _ h=>h) (fun _ h=>h)) ((zZ5 hk (fun _ _ h=>h) (fun _ h=>h)).2.2.2 _ (hP.ds _ (List.getElem_mem hi)).2) (hE.kept hk (fun _ _ h=>h) (fun _ h=>h)) hK hne (SlI.nil_ _ _ _ _ _) hf hd (by simp;omega))
 obtain⟨r1,r2⟩:=fileC hS.rs.rc
 rw[hP.len] at r1
 obtain⟨bb,off,hA,hbW,hc⟩:=hP.sl.1.at_ hi
 rw[hA] at r1
 have hll:=hP.sl.2.1
 clear hb hk hsd hS hP hE hK hne hf hd hD
 generalize files[i]=f at hc cD HW ⊢
 have c2:=hc 2 _ rfl
 clear hc
 have hi':(i:Int) < (files.length:Int):=by omega
 go_enter Tryz.func41,Tryz.ntmps41
 go_upto_region 1 with fail
 go_still_tail 15,(by kernel_rfl)
 change wpList _ _ _ _ _ w.drew
 clear r1 r2 hA hbW c2
 generalize w.drew=w2 at cD HW ⊢
 go_wp2_with fail
 refine cD.out.mono ?_
 rintro e w3 h
 have h2:=Lib.hid (HW.out _ _ h)
 obtain⟨σ',Im',l',A',c',rfl,_⟩:=h
 go_wp2
 go_ret
 exact h2.out
end
def clo0:Clo Unit:=⟨fun _ _=>False,fun _ _=>True,fun _ _ _=>trivial,fun _=>0⟩
def U0:UseR Unit:=fun σ e _ _ σ' e'=>σ'=σ∧e'=e
section
variable {R:RF}{n:Nat}
set_option maxRecDepth 100000 in
set_option maxHeartbeats 4000000 in
theorem cloOk0:yV7 R clo0 n U0 75 #[]:=by
 intro σ Im w s k t m a b As cs subs Ad cd decls At ct tail pos x file hS hOk hx hf hkd
 clear hkd
 obtain⟨w1,hw1⟩:∃ w1,(((w.alloc (.cells #[.int .i64 k,.string ⟨t.toArray⟩,.int .i64 m,.string ⟨a.toArray⟩,.string ⟨b.toArray⟩,.slice As subs.length cs,.slice Ad decls.length cd,.slice At tail.length ct,.int .i64 pos] 67)).alloc (.cells #[.int .i64 (file:Nat),.int .i64 pos,.string ⟨t.toArray⟩,.int .i64 x.1,.int .i64 x.2.1] 52)).alloc (.cells #[.int .i64 0,.string ⟨#[]⟩,.int .i64 0,.string ⟨#[]⟩,.string ⟨#[]⟩,.slice none 0 0,.slice none 0 0,.slice none 0 0,.int .i64 0] 67))=w1:=⟨_,rfl⟩
 have hb1:Below w.heap.size w w1:=by rw[←hw1];exact((((Below.refl w.heap.size w).alloc (Nat.le_refl _) _).alloc (by simp) _).alloc (by simp;omega) _)
 have hz1:w1.heap.size=w.heap.size+1+1+1:=by rw[←hw1];simp
 have F1:=Lib.hid ((Fr.start (hS.less (Nat.le_succ s) (Nat.le_refl _))).below hb1)
 have M1:=Lib.hid (show Mine (zn R clo0 σ Im) w1 (w.heap.size+2) from hS.zo.new_ (by omega) (by omega))
 have B1:=Lib.hid (show Blk w1 w.heap.size 67 #[.int .i64 k,.string ⟨t.toArray⟩,.int .i64 m,.string ⟨a.toArray⟩,.string ⟨b.toArray⟩,.slice As subs.length cs,.slice Ad decls.length cd,.slice At tail.length ct,.int .i64 pos] from by rw[←hw1];exact((Blk.new w _ _).alloc _).alloc _)
 have Z1:=Lib.hid (show Blk w1 (w.heap.size+2) 67 #[.int .i64 0,.string ⟨#[]⟩,.int .i64 0,.string ⟨#[]⟩,.string ⟨#[]⟩,.slice none 0 0,.slice none 0 0,.slice none 0 0,.int .i64 0] from by
  rw[←hw1]
  have:=Blk.new ((w.alloc (.cells #[.int .i64 k,.string ⟨t.toArray⟩,.int .i64 m,.string ⟨a.toArray⟩,.string ⟨b.toArray⟩,.slice As subs.length cs,.slice Ad decls.length cd,.slice At tail.length ct,.int .i64 pos] 67)).alloc (.cells #[.int .i64 (file:Nat),.int .i64 pos,.string ⟨t.toArray⟩,.int .i64 x.1,.int .i64 x.2.1] 52)) 67 #[.int .i64 0,.string ⟨#[]⟩,.int .i64 0,.string ⟨#[]⟩,.string ⟨#[]⟩,.slice none 0 0,.slice none 0 0,.slice none 0 0,.int .i64 0]
  rw[World.size_alloc,World.size_alloc] at this
  exact this)
 have O1:=Lib.hid ((zZ5 (Kp.ofBelow hb1 (fun _=>False)) (fun _ _ h=>h) (fun _ h=>h)).1 _ hOk)
 clear hS hOk hf hb1 hz1
 simp only[encE,List.append_toArray,List.cons_append,List.nil_append]
 change Calls Tryz.prog 75 #[.agg #[.int .i64 k,.string ⟨t.toArray⟩,.int .i64 m,.string ⟨a.toArray⟩,.string ⟨b.toArray⟩,.slice As subs.length cs,.slice Ad decls.length cd,.slice At tail.length ct,.int .i64 pos],.agg #[.int .i64 (file:Nat),.int .i64 pos,.string ⟨t.toArray⟩,.int .i64 x.1,.int .i64 x.2.1],yV4 x.2.2] w _
 go_enter Tryz.func75,Tryz.ntmps75
 go_upto_region 1 with fail
 clear hw1
 obtain⟨e0,e1,e2,e3,e4,e5,e6,e7,e8⟩:=zZ6 B1.out
 obtain⟨y0,y1,y2,y3,y4,y5,y6,y7,y8⟩:=zZ6 Z1.out
 obtain⟨zf0,zf1,zf2,zf3,zf4,zf5,zf6,zf7,zf8⟩:=zK7 Z1.out
 go_wp2
 clear e0 e1 e2 e3 e4 e5 e6 e7 e8 y0 y1 y2 y3 y4 y5 y6 y7 y8 zf0 zf1 zf2 zf3 zf4 zf5 zf6 zf7 zf8
 obtain⟨F5,hB5,hK5⟩:=F1.out.store9 (by omega) M1.out Z1.out (.int .i64 k) (.string ⟨t.toArray⟩) (.int .i64 m) (.string ⟨a.toArray⟩) (.string ⟨b.toArray⟩) (.slice As subs.length cs) (.slice Ad decls.length cd) (.slice At tail.length ct) (.int .i64 pos)
 have hn5:∀ q,Im q→¬ q=w.heap.size+2:=fun q hq e=>M1.out.2.2 (e▸hq)
 have HR:=Lib.hid (show RetE R clo0 n s σ Im w (fun σ' e'=>U0 σ (.mk k t m a b As cs subs Ad cd decls At ct tail pos) x file σ' e') (.returned (.agg #[.int .i64 k,.string ⟨t.toArray⟩,.int .i64 m,.string ⟨a.toArray⟩,.string ⟨b.toArray⟩,.slice As subs.length cs,.slice Ad decls.length cd,.slice At tail.length ct,.int .i64 pos])) _ from⟨σ,Im,.mk k t m a b As cs subs Ad cd decls At ct tail pos,rfl,⟨rfl,rfl⟩,F5.st,F5.sp,F5.gr,(zZ5 hK5 hn5 (fun _ h=>h)).1 _ O1.out⟩)
 obtain⟨z0,z1,z2,z3,z4,z5,z6,z7,z8⟩:=zZ6 hB5
 refine bodyPost_ret (v:=.agg #[.int .i64 k,.string ⟨t.toArray⟩,.int .i64 m,.string ⟨a.toArray⟩,.string ⟨b.toArray⟩,.slice As subs.length cs,.slice Ad decls.length cd,.slice At tail.length ct,.int .i64 pos]) ?_ rfl HR.out
 simp[results,Tryz.results75,go_sem,z0,z1,z2,z3,z4,z5,z6,z7,z8]
end
end Go.Proofs.YtdgehhgjgifikaaGreatDoor
