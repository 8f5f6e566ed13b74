/- What the claim needs of:WNest. -/
import Derived.Test.YtdgehhgjgifikaaGreatDoorN44
import Derived.Test.YtdgehhgjgifikaaGreatDoorN5
namespace Go.Proofs.YtdgehhgjgifikaaGreatDoor.lawNested
open Go.RowKit Go.Sort
theorem zA5:∀ (l:List Bool)(imp:Bool),∃ k dp,zN9 l imp=⟨0,5,[120],k,dp⟩
 | [],imp=>⟨_,_,rfl⟩
 | m ::r,imp=>by
   rw[zN9]
   cases m
   ·exact zA5 r imp
   ·exact⟨_,_,rfl⟩
theorem pat_nest (bits:List Bool)(imp:Bool):∀ f∈(zA3 bits imp).files,PatDs (RxOk rxT) f.decls:=fun f hf=>by
 rw[List.mem_singleton.1 hf]
 exact yM0 bits (by simp[zS3,zH5,PatDs,PatD,PatEs,PatE])
theorem xT3 {A':Option Addr}{q:FA}{bits:List Bool}{imp:Bool}(W:World)(hok:OkP W W.heap.size ⟨[],A',1,[q]⟩)(hpl:plP ⟨[],A',1,[q]⟩=zA3 bits imp)(h1:1≤bits.length)(h7:bits.length≤7)(hG:Glob W) :
  Calls Tryz.prog 14 #[.agg #[.string ⟨#[]⟩,.slice A' 1 1]] W (RU [zN9 bits imp] W):=by
 obtain⟨hu,hn⟩:=xU9 bits imp h1 h7
 have h:=xV8 rxT ⟨[],A',1,[q]⟩ W ⟨hok,by rw[hpl];exact hn⟩ (fun f hf=>by
  have h2:=pat_nest bits imp (plF f) (by rw[←hpl];exact List.mem_map.2 ⟨f,hf,rfl⟩)
  exact h2) hG
 rw[hpl,hu] at h
 refine h.mono ?_
 rintro e W' ⟨A,c,rfl,h1,_,h2,_⟩
 exact⟨A,c,rfl,h1,h2⟩
set_option maxRecDepth 100000 in
theorem zW4 {Q:Exit→Act→World→Prop}{W:World}{fs:List Fact}(aa ab ac ad ae af ag ah ai aj ak al am an ao ap aq ar au av aw ax ay az aA aB aC aD aE aF aG aH aI aJ aK aL aM aN aO aP aQ aR aS aT aU aV aW aX aY aZ a0 a1 a2 a3 a4 a5 a6 a7 a8 a9 ba bb bc bd be bf bg bh bi:Value)(h:Q .normal (Act.mk #[aa,ab,ac,ad,ae,af,bi,ah,ai,aj,ak,al,am,an,ao,ap,aq,ar,au,av,aw,ax,ay,az,aA,aB,aC,aD,aE,aF,aG,aH,aI,aJ,aK,aL,aM,aN,aO,aP,aQ,aR,aS,aT,aU,aV,aW,aX,aY,aZ,a0,a1,ba,bb,bc,bd,be,bf,bg,bh] []) W):zX1 W (fun A=>Q .normal A W) [] fs (Act.put (Act.put (Act.put (Act.put (Act.put (Act.put (Act.put (Act.put (Act.put (Act.mk #[aa,ab,ac,ad,ae,af,ag,ah,ai,aj,ak,al,am,an,ao,ap,aq,ar,au,av,aw,ax,ay,az,aA,aB,aC,aD,aE,aF,aG,aH,aI,aJ,aK,aL,aM,aN,aO,aP,aQ,aR,aS,aT,aU,aV,aW,aX,aY,aZ,a0,a1,a2,a3,a4,a5,a6,a7,a8,a9] []) (some 52) ba) (some 53) bb) (some 54) bc) (some 55) bd) (some 56) be) (some 57) bf) (some 58) bg) (some 59) bh) (some 6) bi):=
 zM2 (by kernel_rfl) h
set_option maxRecDepth 100000 in
set_option maxHeartbeats 16000000 in
theorem walk (n m:Nat)(imp:Bool)(w:World)(hn:n < 256)(hm:m < 256)(_hl:True)(hG:Glob w) :
  Calls Tryz.prog 10 #[.int .u8 (n:Nat),.int .u8 (m:Nat),.bool imp] w fun e w'=>e=.returned (.bool true)∧Below w.heap.size w w':=by
 have HG:=Lib.hid hG
 clear hG _hl
 by_cases h1:1≤n
 ·by_cases h7:n≤7
  ·have i1:¬ (n:Int) < 1:=by omega
   have i7:¬ (7:Int) < (n:Int):=by omega
   go_enter Tryz.func10,Tryz.ntmps10
   go_wp2_with fail
   refine(xT2 n m imp h1 h7 hm w).mono ?_
   rintro e w1 ⟨A',q,rfl,hok,hpl,hb1⟩
   have HB1:=Lib.hid hb1
   have cU:=Lib.hid (xT3 w1 hok hpl (by rw[zQ1];exact h1) (by rw[zQ1];exact h7) (HG.out.keep hb1))
   clear hok hpl hb1
   go_wp2_with fail
   refine cU.out.mono ?_
   rintro e w2 ⟨Al,cl,rfl,hSl,hb2⟩
   have HB2:=Lib.hid (HB1.out.trans (hb2.mono HB1.out.size))
   have HSl:=Lib.hid hSl
   clear hb2 hSl cU HB1
   obtain⟨kw,dw,hw⟩:=zA5 (zY6 m n) imp
   have HW:=Lib.hid hw
   clear hw
   have hb3:=(Below.refl w2.heap.size w2).alloc (Nat.le_refl _) (.cells #[.int .i64 0,.int .i64 5,.string ⟨#[120]⟩,.int .i64 0,.int .i64 0] 52)
   have HB3:=Lib.hid (HB2.out.trans (hb3.mono HB2.out.size))
   have HX3:=Lib.hid (Blk.new w2 52 #[.int .i64 0,.int .i64 5,.string ⟨#[120]⟩,.int .i64 0,.int .i64 0])
   have HL3:=Lib.hid (show Sl (w2.alloc (.cells #[.int .i64 0,.int .i64 5,.string ⟨#[120]⟩,.int .i64 0,.int .i64 0] 52)) w2.heap.size 5 encU Al [zN9 (zY6 m n) imp] from HSl.out.below hb3)
   clear hb3 HSl
   go_upto_region 7 with fail
   generalize hwq:w2.alloc (.cells #[.int .i64 0,.int .i64 5,.string ⟨#[120]⟩,.int .i64 0,.int .i64 0] 52)=w3 at HB3 HX3 HL3 ⊢
   clear hwq
   have x3:=HX3.out.cell 3
   have f3:=HX3.out.free 3
   cases imp with
   | true=>
     have hk:=(Kp.refl (· = w2.heap.size) w3).setCell (p:=⟨w2.heap.size,3,none⟩) rfl (.int .i64 4)
     have K4:=Lib.hid hk
     have X4:=Lib.hid (show Blk (w3.setCell ⟨w2.heap.size,3,none⟩ (.int .i64 4)) w2.heap.size 52 #[.int .i64 0,.int .i64 5,.string ⟨#[120]⟩,.int .i64 4,.int .i64 0] from by simpa using HX3.out.set_ 3 (.int .i64 4))
     clear hk
     go_upto_region 10 with fail
     generalize w3.setCell ⟨w2.heap.size,3,none⟩ (.int .i64 4)=w4 at K4 X4 ⊢
     clear x3 f3
     go_loopw [10] (fun dv wq=>∃ (d:Nat) (k dp:Int),d≤n∧dv=.int .i64 (d:Nat)∧Hid (zN9 (zY6 m d) true=⟨0,5,[120],k,dp⟩)∧Hid (Kp (· = w2.heap.size) w3 wq)∧Hid (Blk wq w2.heap.size 52 #[.int .i64 0,.int .i64 5,.string ⟨#[120]⟩,.int .i64 k,.int .i64 dp])) (fun dv _=>n-(intOf dv).toNat)
     case atStart=>exact⟨0,4,0,Nat.zero_le _,rfl,Lib.hid rfl,K4,X4⟩
     case round=>
      clear K4 X4
      obtain⟨d,k,dp,hd,rfl,Wd,Kd,Xd⟩:=hrel
      by_cases hlt:d < n
      ·have hlt':(d:Int) < (n:Int):=by omega
       have hd6:d≤6:=by omega
       have hbit:=bit_u8 m d hm
       have y3:=Xd.out.cell 3
       have g3:=Xd.out.free 3
       have y4:=Xd.out.cell 4
       have g4:=Xd.out.free 4
       cases hbt:m.testBit d with
       | true=>
         rw[hbt] at hbit
         have hkd:Kp (· = w2.heap.size) wr ((wr.setCell ⟨w2.heap.size,3,none⟩ (.int .i64 1)).setCell ⟨w2.heap.size,4,none⟩ (.int .i64 (d:Nat))):=((Kp.refl (· = w2.heap.size) wr).setCell (p:=⟨w2.heap.size,3,none⟩) rfl _).setCell (p:=⟨w2.heap.size,4,none⟩) rfl _
         have Ke:=Lib.hid (Kd.out.trans hkd)
         have Xe:=Lib.hid (show Blk ((wr.setCell ⟨w2.heap.size,3,none⟩ (.int .i64 1)).setCell ⟨w2.heap.size,4,none⟩ (.int .i64 (d:Nat))) w2.heap.size 52 #[.int .i64 0,.int .i64 5,.string ⟨#[120]⟩,.int .i64 1,.int .i64 (d:Nat)] from by simpa using(Xd.out.set_ 3 (.int .i64 1)).set_ 4 (.int .i64 (d:Nat)))
         have We:=Lib.hid (show zN9 (zY6 m (d+1)) true=⟨0,5,[120],1,(d:Nat)⟩ from by rw[zY6,zN9,hbt,if_pos rfl,zQ1])
         clear hkd
         go_wp2
         go_roundw
         case rel=>exact⟨d+1,1,(d:Nat),by omega,by go_num,We,Ke,Xe⟩
         case measure=>simp[intOf];omega
       | false=>
         rw[hbt] at hbit
         have We:=Lib.hid (show zN9 (zY6 m (d+1)) true=⟨0,5,[120],k,dp⟩ from by rw[zY6,zN9,hbt,if_neg (by decide)];exact Wd.out)
         go_wp2
         go_roundw
         case rel=>exact⟨d+1,k,dp,by omega,by go_num,We,Kd,Xd⟩
         case measure=>simp[intOf];omega
      ·obtain rfl:d=n:=by omega
       have hHL:=HL3.out
       rw[Wd.out] at hHL
       rcases hHL with hnil | ⟨bl,ol,rfl,hbl,hcl⟩
       ·cases hnil
       have hzb0:=HX3.out.lt
       have hk3:∀ (j:Nat) (v:Value),(encU ⟨0,5,[120],k,dp⟩)[j]? = some v→wr.cell? ⟨bl,ol+0*5+j,none⟩=some v:=fun j v hv=>(Kd.out.cell (p:=⟨bl,ol+0*5+j,none⟩) (by show bl < _;omega) (by show ¬ bl=w2.heap.size;omega)).trans (hcl 0 (by simp) j v hv)
       have kl0:wr.cell? ⟨bl,ol,none⟩=some (.int .i64 0):=hk3 0 _ rfl
       have kl1:wr.cell? ⟨bl,ol+1,none⟩=some (.int .i64 5):=hk3 1 _ rfl
       have kl2:wr.cell? ⟨bl,ol+2,none⟩=some (.string ⟨#[120]⟩):=hk3 2 _ rfl
       have kl3:wr.cell? ⟨bl,ol+3,none⟩=some (.int .i64 k):=hk3 3 _ rfl
       have kl4:wr.cell? ⟨bl,ol+4,none⟩=some (.int .i64 dp):=hk3 4 _ rfl
       have hzl:bl < wr.heap.size:=by have:=Kd.out.size;omega
       have hzb:w2.heap.size < wr.heap.size:=Xd.out.lt
       have kb0:=Xd.out.cell 0
       have kb1:=Xd.out.cell 1
       have kb2:=Xd.out.cell 2
       have kb3:=Xd.out.cell 3
       have kb4:=Xd.out.cell 4
       have HBz:=Lib.hid (show Below w.heap.size w wr from HB3.out.trans (Kd.out.toBelow HB3.out.size fun b hb e=>by have:=HB2.out.size;omega))
       clear hk3 hcl hzb0
       go_upto_region 15 with fail
       apply zY0 (by kernel_rfl) [isv _,isv _,isv _,isv _,isv _,isv _,(fun v _=>v=.bool true),isv _,isv _] wr.heap.size wr (Nat.le_refl _) (Below.refl _ _).drew (by kernel_rfl) (by kernel_rfl) (by kernel_rfl) (And.intro (zZ1 _) (And.intro (zZ1 _) (And.intro (zZ1 _) (And.intro (zZ1 _) (And.intro (zZ1 _) (And.intro (zZ1 _) (And.intro (fun _ _ _ h _=>h) (And.intro (zZ1 _) (And.intro (zZ1 _) trivial))))))))) ?steps (by rfl) ?fin
       case steps=>
        refine(And.intro ?o0 (And.intro ?o1 (And.intro ?o2 (And.intro ?o3 (And.intro ?o4 (And.intro ?o5 (And.intro ?o6 (And.intro ?o7 (And.intro ?o8 trivial)))))))))
        case o0=>
         intro AA W KK QQ hB hs hd hl hk
         have sl7:=hs 7 _ (by kernel_rfl) rfl
         clear hs hd hl
         go_simp
         exact hk _ _ rfl (Below.refl _ _)
        case o1=>
         intro AA W KK QQ hB hs hd hl hk
         obtain⟨_,sl52,rfl⟩:=hd 0 52 (by kernel_rfl) rfl
         clear hs hd hl
         go_simp
         exact hk _ _ rfl (Below.refl _ _)
        case o2=>
         intro AA W KK QQ hB hs hd hl hk
         obtain⟨_,sl53,rfl⟩:=hd 1 53 (by kernel_rfl) rfl
         clear hs hd hl
         have hx0:=hB.cell (p:=⟨bl,ol,none⟩) hzl
         rw[kl0] at hx0
         have hx1:=hB.cell (p:=⟨bl,ol+1,none⟩) hzl
         rw[kl1] at hx1
         have hx2:=hB.cell (p:=⟨bl,ol+2,none⟩) hzl
         rw[kl2] at hx2
         have hx3:=hB.cell (p:=⟨bl,ol+3,none⟩) hzl
         rw[kl3] at hx3
         have hx4:=hB.cell (p:=⟨bl,ol+4,none⟩) hzl
         rw[kl4] at hx4
         go_simp
         exact hk _ _ rfl (Below.refl _ _)
        case o3=>
         intro AA W KK QQ hB hs hd hl hk
         have sl9:=hs 9 _ (by kernel_rfl) rfl
         clear hs hd hl
         have hx0:=hB.cell (p:=⟨w2.heap.size,0,none⟩) hzb
         rw[kb0] at hx0
         have hx1:=hB.cell (p:=⟨w2.heap.size,1,none⟩) hzb
         rw[kb1] at hx1
         have hx2:=hB.cell (p:=⟨w2.heap.size,2,none⟩) hzb
         rw[kb2] at hx2
         have hx3:=hB.cell (p:=⟨w2.heap.size,3,none⟩) hzb
         rw[kb3] at hx3
         have hx4:=hB.cell (p:=⟨w2.heap.size,4,none⟩) hzb
         rw[kb4] at hx4
         go_simp
         exact hk _ _ rfl (Below.refl _ _)
        case o4=>
         intro AA W KK QQ hB hs hd hl hk
         obtain⟨_,sl54,rfl⟩:=hd 2 54 (by kernel_rfl) rfl
         obtain⟨_,sl55,rfl⟩:=hd 3 55 (by kernel_rfl) rfl
         clear hs hd hl
         go_simp
         exact hk _ _ rfl (Below.refl _ _)
        case o5=>
         intro AA W KK QQ hB hs hd hl hk
         obtain⟨_,sl56,rfl⟩:=hd 4 56 (by kernel_rfl) rfl
         clear hs hd hl
         go_simp
         exact hk _ _ rfl (Below.refl _ _)
        case o6=>
         intro AA W KK QQ hB hs hd hl hk
         obtain⟨_,sl57,rfl⟩:=hd 5 57 (by kernel_rfl) rfl
         clear hs hd hl
         refine⟨_,_,rfl,sl57,?_⟩
         change Oper.wp _ _ _ _ _ _
         go_simp
         refine(zS2 W (HG.out.keep (HBz.out.trans (hB.mono HBz.out.size)))).mono ?_
         rintro e W2 ⟨rfl,hb2⟩
         exact hk _ _ rfl hb2
        case o7=>
         intro AA W KK QQ hB hs hd hl hk
         obtain⟨_,sl57,rfl⟩:=hd 5 57 (by kernel_rfl) rfl
         obtain⟨_,sl58,rfl⟩:=hd 6 58 (by kernel_rfl) rfl
         clear hs hd hl
         go_simp
         exact hk _ _ rfl (Below.refl _ _)
        case o8=>
         intro AA W KK QQ hB hs hd hl hk
         obtain⟨_,sl59,rfl⟩:=hd 7 59 (by kernel_rfl) rfl
         clear hs hd hl
         go_simp
         exact hk _ _ rfl (Below.refl _ _)
       case fin=>
        intro wz hB
        refine zZ0 52 rfl ?_
        refine zZ0 53 rfl ?_
        refine zZ0 54 rfl ?_
        refine zZ0 55 rfl ?_
        refine zZ0 56 rfl ?_
        refine zZ0 57 rfl ?_
        refine zZ9 58 rfl ?_
        rintro _ rfl
        refine zZ0 59 rfl ?_
        refine zZ0 6 rfl ?_
        refine zW4 _ _ _ _ _ _ _ _ _ _ _ _ _ _ _ _ _ _ _ _ _ _ _ _ _ _ _ _ _ _ _ _ _ _ _ _ _ _ _ _ _ _ _ _ _ _ _ _ _ _ _ _ _ _ _ _ _ _ _ _ _ _ _ _ _ _ _ _ _ ?_
        have HR:=Lib.hid (HBz.out.trans (hB.mono HBz.out.size))
        clear hB
        go_wp2
        refine bodyPost_ret (v:=.bool true) (by simp[results,Tryz.results10,go_sem]) rfl ⟨rfl,HR.out⟩
   | false=>
     go_upto_region 10 with fail
     have K4:=Lib.hid (Kp.refl (· = w2.heap.size) w3)
     have X4:=HX3
     clear x3 f3
     go_loopw [10] (fun dv wq=>∃ (d:Nat) (k dp:Int),d≤n∧dv=.int .i64 (d:Nat)∧Hid (zN9 (zY6 m d) false=⟨0,5,[120],k,dp⟩)∧Hid (Kp (· = w2.heap.size) w3 wq)∧Hid (Blk wq w2.heap.size 52 #[.int .i64 0,.int .i64 5,.string ⟨#[120]⟩,.int .i64 k,.int .i64 dp])) (fun dv _=>n-(intOf dv).toNat)
     case atStart=>exact⟨0,0,0,Nat.zero_le _,rfl,Lib.hid rfl,K4,X4⟩
     case round=>
      clear K4 X4
      obtain⟨d,k,dp,hd,rfl,Wd,Kd,Xd⟩:=hrel
      by_cases hlt:d < n
      ·have hlt':(d:Int) < (n:Int):=by omega
       have hd6:d≤6:=by omega
       have hbit:=bit_u8 m d hm
       have y3:=Xd.out.cell 3
       have g3:=Xd.out.free 3
       have y4:=Xd.out.cell 4
       have g4:=Xd.out.free 4
       cases hbt:m.testBit d with
       | true=>
         rw[hbt] at hbit
         have hkd:Kp (· = w2.heap.size) wr ((wr.setCell ⟨w2.heap.size,3,none⟩ (.int .i64 1)).setCell ⟨w2.heap.size,4,none⟩ (.int .i64 (d:Nat))):=((Kp.refl (· = w2.heap.size) wr).setCell (p:=⟨w2.heap.size,3,none⟩) rfl _).setCell (p:=⟨w2.heap.size,4,none⟩) rfl _
         have Ke:=Lib.hid (Kd.out.trans hkd)
         have Xe:=Lib.hid (show Blk ((wr.setCell ⟨w2.heap.size,3,none⟩ (.int .i64 1)).setCell ⟨w2.heap.size,4,none⟩ (.int .i64 (d:Nat))) w2.heap.size 52 #[.int .i64 0,.int .i64 5,.string ⟨#[120]⟩,.int .i64 1,.int .i64 (d:Nat)] from by simpa using(Xd.out.set_ 3 (.int .i64 1)).set_ 4 (.int .i64 (d:Nat)))
         have We:=Lib.hid (show zN9 (zY6 m (d+1)) false=⟨0,5,[120],1,(d:Nat)⟩ from by rw[zY6,zN9,hbt,if_pos rfl,zQ1])
         clear hkd
         go_wp2
         go_roundw
         case rel=>exact⟨d+1,1,(d:Nat),by omega,by go_num,We,Ke,Xe⟩
         case measure=>simp[intOf];omega
       | false=>
         rw[hbt] at hbit
         have We:=Lib.hid (show zN9 (zY6 m (d+1)) false=⟨0,5,[120],k,dp⟩ from by rw[zY6,zN9,hbt,if_neg (by decide)];exact Wd.out)
         go_wp2
         go_roundw
         case rel=>exact⟨d+1,k,dp,by omega,by go_num,We,Kd,Xd⟩
         case measure=>simp[intOf];omega
      ·obtain rfl:d=n:=by omega
       have hHL:=HL3.out
       rw[Wd.out] at hHL
       rcases hHL with hnil | ⟨bl,ol,rfl,hbl,hcl⟩
       ·cases hnil
       have hzb0:=HX3.out.lt
       have hk3:∀ (j:Nat) (v:Value),(encU ⟨0,5,[120],k,dp⟩)[j]? = some v→wr.cell? ⟨bl,ol+0*5+j,none⟩=some v:=fun j v hv=>(Kd.out.cell (p:=⟨bl,ol+0*5+j,none⟩) (by show bl < _;omega) (by show ¬ bl=w2.heap.size;omega)).trans (hcl 0 (by simp) j v hv)
       have kl0:wr.cell? ⟨bl,ol,none⟩=some (.int .i64 0):=hk3 0 _ rfl
       have kl1:wr.cell? ⟨bl,ol+1,none⟩=some (.int .i64 5):=hk3 1 _ rfl
       have kl2:wr.cell? ⟨bl,ol+2,none⟩=some (.string ⟨#[120]⟩):=hk3 2 _ rfl
       have kl3:wr.cell? ⟨bl,ol+3,none⟩=some (.int .i64 k):=hk3 3 _ rfl
       have kl4:wr.cell? ⟨bl,ol+4,none⟩=some (.int .i64 dp):=hk3 4 _ rfl
       have hzl:bl < wr.heap.size:=by have:=Kd.out.size;omega
       have hzb:w2.heap.size < wr.heap.size:=Xd.out.lt
       have kb0:=Xd.out.cell 0
       have kb1:=Xd.out.cell 1
       have kb2:=Xd.out.cell 2
       have kb3:=Xd.out.cell 3
       have kb4:=Xd.out.cell 4
       have HBz:=Lib.hid (show Below w.heap.size w wr from HB3.out.trans (Kd.out.toBelow HB3.out.size fun b hb e=>by have:=HB2.out.size;omega))
       clear hk3 hcl hzb0
       go_upto_region 15 with fail
       apply zY0 (by kernel_rfl) [isv _,isv _,isv _,isv _,isv _,isv _,(fun v _=>v=.bool true),isv _,isv _] wr.heap.size wr (Nat.le_refl _) (Below.refl _ _).drew (by kernel_rfl) (by kernel_rfl) (by kernel_rfl) (And.intro (zZ1 _) (And.intro (zZ1 _) (And.intro (zZ1 _) (And.intro (zZ1 _) (And.intro (zZ1 _) (And.intro (zZ1 _) (And.intro (fun _ _ _ h _=>h) (And.intro (zZ1 _) (And.intro (zZ1 _) trivial))))))))) ?steps (by rfl) ?fin
       case steps=>
        refine(And.intro ?o0 (And.intro ?o1 (And.intro ?o2 (And.intro ?o3 (And.intro ?o4 (And.intro ?o5 (And.intro ?o6 (And.intro ?o7 (And.intro ?o8 trivial)))))))))
        case o0=>
         intro AA W KK QQ hB hs hd hl hk
         have sl7:=hs 7 _ (by kernel_rfl) rfl
         clear hs hd hl
         go_simp
         exact hk _ _ rfl (Below.refl _ _)
        case o1=>
         intro AA W KK QQ hB hs hd hl hk
         obtain⟨_,sl52,rfl⟩:=hd 0 52 (by kernel_rfl) rfl
         clear hs hd hl
         go_simp
         exact hk _ _ rfl (Below.refl _ _)
        case o2=>
         intro AA W KK QQ hB hs hd hl hk
         obtain⟨_,sl53,rfl⟩:=hd 1 53 (by kernel_rfl) rfl
         clear hs hd hl
         have hx0:=hB.cell (p:=⟨bl,ol,none⟩) hzl
         rw[kl0] at hx0
         have hx1:=hB.cell (p:=⟨bl,ol+1,none⟩) hzl
         rw[kl1] at hx1
         have hx2:=hB.cell (p:=⟨bl,ol+2,none⟩) hzl
         rw[kl2] at hx2
         have hx3:=hB.cell (p:=⟨bl,ol+3,none⟩) hzl
         rw[kl3] at hx3
         have hx4:=hB.cell (p:=⟨bl,ol+4,none⟩) hzl
         rw[kl4] at hx4
         go_simp
         exact hk _ _ rfl (Below.refl _ _)
        case o3=>
         intro AA W KK QQ hB hs hd hl hk
         have sl9:=hs 9 _ (by kernel_rfl) rfl
         clear hs hd hl
         have hx0:=hB.cell (p:=⟨w2.heap.size,0,none⟩) hzb
         rw[kb0] at hx0
         have hx1:=hB.cell (p:=⟨w2.heap.size,1,none⟩) hzb
         rw[kb1] at hx1
         have hx2:=hB.cell (p:=⟨w2.heap.size,2,none⟩) hzb
         rw[kb2] at hx2
         have hx3:=hB.cell (p:=⟨w2.heap.size,3,none⟩) hzb
         rw[kb3] at hx3
         have hx4:=hB.cell (p:=⟨w2.heap.size,4,none⟩) hzb
         rw[kb4] at hx4
         go_simp
         exact hk _ _ rfl (Below.refl _ _)
        case o4=>
         intro AA W KK QQ hB hs hd hl hk
         obtain⟨_,sl54,rfl⟩:=hd 2 54 (by kernel_rfl) rfl
         obtain⟨_,sl55,rfl⟩:=hd 3 55 (by kernel_rfl) rfl
         clear hs hd hl
         go_simp
         exact hk _ _ rfl (Below.refl _ _)
        case o5=>
         intro AA W KK QQ hB hs hd hl hk
         obtain⟨_,sl56,rfl⟩:=hd 4 56 (by kernel_rfl) rfl
         clear hs hd hl
         go_simp
         exact hk _ _ rfl (Below.refl _ _)
        case o6=>
         intro AA W KK QQ hB hs hd hl hk
         obtain⟨_,sl57,rfl⟩:=hd 5 57 (by kernel_rfl) rfl
         clear hs hd hl
         refine⟨_,_,rfl,sl57,?_⟩
         change Oper.wp _ _ _ _ _ _
         go_simp
         refine(zS2 W (HG.out.keep (HBz.out.trans (hB.mono HBz.out.size)))).mono ?_
         rintro e W2 ⟨rfl,hb2⟩
         exact hk _ _ rfl hb2
        case o7=>
         intro AA W KK QQ hB hs hd hl hk
         obtain⟨_,sl57,rfl⟩:=hd 5 57 (by kernel_rfl) rfl
         obtain⟨_,sl58,rfl⟩:=hd 6 58 (by kernel_rfl) rfl
         clear hs hd hl
         go_simp
         exact hk _ _ rfl (Below.refl _ _)
        case o8=>
         intro AA W KK QQ hB hs hd hl hk
         obtain⟨_,sl59,rfl⟩:=hd 7 59 (by kernel_rfl) rfl
         clear hs hd hl
         go_simp
         exact hk _ _ rfl (Below.refl _ _)
       case fin=>
        intro wz hB
        refine zZ0 52 rfl ?_
        refine zZ0 53 rfl ?_
        refine zZ0 54 rfl ?_
        refine zZ0 55 rfl ?_
        refine zZ0 56 rfl ?_
        refine zZ0 57 rfl ?_
        refine zZ9 58 rfl ?_
        rintro _ rfl
        refine zZ0 59 rfl ?_
        refine zZ0 6 rfl ?_
        refine zW4 _ _ _ _ _ _ _ _ _ _ _ _ _ _ _ _ _ _ _ _ _ _ _ _ _ _ _ _ _ _ _ _ _ _ _ _ _ _ _ _ _ _ _ _ _ _ _ _ _ _ _ _ _ _ _ _ _ _ _ _ _ _ _ _ _ _ _ _ _ ?_
        have HR:=Lib.hid (HBz.out.trans (hB.mono HBz.out.size))
        clear hB
        go_wp2
        refine bodyPost_ret (v:=.bool true) (by simp[results,Tryz.results10,go_sem]) rfl ⟨rfl,HR.out⟩
  ·have i1:¬ (n:Int) < 1:=by omega
   have i7:(7:Int) < (n:Int):=by omega
   go_enter Tryz.func10,Tryz.ntmps10
   go_wp2_with fail
   refine(zS2 w HG.out).mono ?_
   rintro e w1 ⟨rfl,hb⟩
   have HB:=Lib.hid hb
   clear hb
   go_wp2
   go_ret
   exact⟨rfl,HB.out⟩
 ·have i1:(n:Int) < 1:=by omega
  go_enter Tryz.func10,Tryz.ntmps10
  go_wp2_with fail
  refine(zS2 w HG.out).mono ?_
  rintro e w1 ⟨rfl,hb⟩
  have HB:=Lib.hid hb
  clear hb
  go_wp2
  go_ret
  exact⟨rfl,HB.out⟩
end Go.Proofs.YtdgehhgjgifikaaGreatDoor.lawNested
