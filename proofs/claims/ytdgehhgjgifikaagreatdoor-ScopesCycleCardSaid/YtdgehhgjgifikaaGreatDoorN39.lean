/- What the claim needs of:ZS. -/
import Derived.Test.YtdgehhgjgifikaaGreatDoorN32
import Derived.Test.YtdgehhgjgifikaaGreatDoorN17
import Derived.Laws.EntriesVeiled
namespace Go.Proofs.YtdgehhgjgifikaaGreatDoor
open Go.RowKit Go.Sort Go.Shelf Go.Maps
theorem wp_appO1 {P:Program}{o:Oper}{a:Act}{w:World}{K:Act→World→Prop}{Q:Exit→Act→World→Prop}(d s:Operand)(t t':TypeId)
  (ho:o.op=.call {callee:=.builtin .append,args:=#[d,s],argTypes:=#[t,t']})(v u:Value)(hd:a.eval d=v)(hs:a.eval s=u){v':Value}{w':World}
  (hr:(Builtin.append_ #[t,t'] o.type #[v,u]).run P w=.ok v' w')(h:K (a.put o.dst v') w'):o.wp P a w K Q:=by
 unfold Oper.wp execOp
 simp only[ho,resolve,invoke,builtin,Sem.run_bind,Sem.run_pure,Result.andThen_ok,List.map_toArray,List.map_cons,List.map_nil,hd,hs,hr]
 exact h
theorem yS6 {w w':World}{base e size n:Nat}{v:Value}{xs:List Value}(h:w.ownsRow base e size v n xs)(hb:Below w.heap.size w w'):w'.ownsRow base e size v n xs:=zV5 h (Kp.ofBelow hb fun _=>False) fun _ _ h=>h
def zF1 (rx:Tx→Bool)(p:PA)(w:World)(e:Ending)(w':World):Prop:=
 ∃ ds,xW0 ds (errP rx (plP p)) w e w'∧(errP rx (plP p)≠0→ds=[])∧
   (errP rx (plP p)=0→∃ R σ0 σ env rs,Root p R σ0 env∧zO2 R U0 env 0 p.files σ0 σ rs∧ds=srtD (unA σ.ρ.objs σ.ρ.all++impU σ.ρ.usedI 0 p.files))
set_option maxRecDepth 100000 in
theorem zV7 {Q:Exit→Act→World→Prop}{W:World}{fs:List Fact}(aa ab ac ad ae af ag ah ai aj ak al am an ao ap aq ar au av aw ax ay az aA aB aC aD aE aF aG aH aI aJ aK aL aM aN aO aP aQ aR aS aT aU aV aW aX aY aZ a0 a1 a2 a3 a4 a5 a6 a7 a8 a9 ba bb bc bd be bf bg bh bi bj bk bl bm bn bo bp bq br bs bt bu bv bw bx bz bA bB bC bD bE bF bG bH bI bJ bK bL bM bN bO bP bQ bR bS bT:Value)(h:Q .normal (Act.mk #[aa,ab,ac,ad,ae,af,ag,ah,ai,aj,ak,al,am,an,ao,ap,aq,ar,au,av,aw,ax,ay,az,aA,aB,aC,aD,aE,aF,aG,aH,aI,aJ,aK,aL,aM,aN,aO,aP,aQ,aR,aS,aT,aU,aV,aW,aX,aY,aZ,a0,a1,a2,a3,a4,a5,a6,a7,a8,a9,ba,bb,bc,bd,be,bf,bg,bh,bi,bJ,bK,bL,bM,bN,bO,bP,bQ,bR,bS,bT,bu,bv,bw,bx,bz,bA,bB,bC,bD,bE,bF,bG,bH,bI] []) W):zX1 W (fun A=>Q .normal A W) [] fs (Act.put (Act.put (Act.put (Act.put (Act.put (Act.put (Act.put (Act.put (Act.put (Act.put (Act.put (Act.mk #[aa,ab,ac,ad,ae,af,ag,ah,ai,aj,ak,al,am,an,ao,ap,aq,ar,au,av,aw,ax,ay,az,aA,aB,aC,aD,aE,aF,aG,aH,aI,aJ,aK,aL,aM,aN,aO,aP,aQ,aR,aS,aT,aU,aV,aW,aX,aY,aZ,a0,a1,a2,a3,a4,a5,a6,a7,a8,a9,ba,bb,bc,bd,be,bf,bg,bh,bi,bj,bk,bl,bm,bn,bo,bp,bq,br,bs,bt,bu,bv,bw,bx,bz,bA,bB,bC,bD,bE,bF,bG,bH,bI] []) (some 69) bJ) (some 70) bK) (some 71) bL) (some 72) bM) (some 73) bN) (some 74) bO) (some 75) bP) (some 76) bQ) (some 77) bR) (some 78) bS) (some 79) bT):=
 zM2 (by kernel_rfl) h
set_option maxRecDepth 100000 in
theorem zH2 {o:Oper}{P:Program}{Q:Exit→Act→World→Prop}{K:Act→World→Prop}{W:World}{fs:List Fact}{G:Act→Prop}{A0:Act}(aa ab ac ad ae af ag ah ai aj ak al am an ao ap aq ar au av aw ax ay az aA aB aC aD aE aF aG aH aI aJ aK aL aM aN aO aP aQ aR aS aT aU aV aW aX aY aZ a0 a1 a2 a3 a4 a5 a6 a7 a8 a9 ba bb bc bd be bf bg bh bi bj bk bl bm bn bo bp bq br bs bt bu bv bw bx bz bA bB bC bD bE bF bG bH bI bJ bK bL bM bN bO bP bQ bR bS bT bU bV bW bX bY bZ b0:Value)(hG:∀ A,o.wp P A W K Q→G A)(h:A0=Act.mk #[aa,ab,ac,ad,ae,af,ag,ah,ai,aj,ak,al,am,an,ao,ap,aq,ar,au,av,aw,ax,ay,az,aA,aB,aC,aD,aE,aF,aG,aH,aI,aJ,aK,bJ,bK,bL,bM,bN,bO,bP,bQ,bR,bS,bT,bU,bV,bW,bX,bY,bZ,b0,a3,a4,a5,a6,a7,a8,a9,ba,bb,bc,bd,be,bf,bg,bh,bi,bj,bk,bl,bm,bn,bo,bp,bq,br,bs,bt,bu,bv,bw,bx,bz,bA,bB,bC,bD,bE,bF,bG,bH,bI] []→o.wp P (Act.mk #[aa,ab,ac,ad,ae,af,ag,ah,ai,aj,ak,al,am,an,ao,ap,aq,ar,au,av,aw,ax,ay,az,aA,aB,aC,aD,aE,aF,aG,aH,aI,aJ,aK,bJ,bK,bL,bM,bN,bO,bP,bQ,bR,bS,bT,bU,bV,bW,bX,bY,bZ,b0,a3,a4,a5,a6,a7,a8,a9,ba,bb,bc,bd,be,bf,bg,bh,bi,bj,bk,bl,bm,bn,bo,bp,bq,br,bs,bt,bu,bv,bw,bx,bz,bA,bB,bC,bD,bE,bF,bG,bH,bI] []) W K Q):zX1 W (fun B=>A0=B→G B) [] fs (Act.put (Act.put (Act.put (Act.put (Act.put (Act.put (Act.put (Act.put (Act.put (Act.put (Act.put (Act.put (Act.put (Act.put (Act.put (Act.put (Act.put (Act.put (Act.mk #[aa,ab,ac,ad,ae,af,ag,ah,ai,aj,ak,al,am,an,ao,ap,aq,ar,au,av,aw,ax,ay,az,aA,aB,aC,aD,aE,aF,aG,aH,aI,aJ,aK,aL,aM,aN,aO,aP,aQ,aR,aS,aT,aU,aV,aW,aX,aY,aZ,a0,a1,a2,a3,a4,a5,a6,a7,a8,a9,ba,bb,bc,bd,be,bf,bg,bh,bi,bj,bk,bl,bm,bn,bo,bp,bq,br,bs,bt,bu,bv,bw,bx,bz,bA,bB,bC,bD,bE,bF,bG,bH,bI] []) (some 35) bJ) (some 36) bK) (some 37) bL) (some 38) bM) (some 39) bN) (some 40) bO) (some 41) bP) (some 42) bQ) (some 43) bR) (some 44) bS) (some 45) bT) (some 46) bU) (some 47) bV) (some 48) bW) (some 49) bX) (some 50) bY) (some 51) bZ) (some 52) b0):=
 zM3 (by kernel_rfl) hG h
set_option maxRecDepth 100000 in
set_option maxHeartbeats 8000000 in
theorem yC6 (rx:Tx→Bool)(p:PA)(w:World)(hP:PkL w p)(hR:∀ f∈p.files,PatDs (RxOk rx) (plDs f.decls))(hG:Glob w)(hs:(∀ f∈p.files,errF rx (plF f)=0)→wF p.files+(nI p.files+(p.files.map fun f=>vDs f.decls).sum)≤1099511627776) :
  Calls Tryz.prog 19 #[.agg #[.string ⟨p.path.toArray⟩,.slice p.A p.files.length p.c]] w (zF1 rx p w):=by
 have hbw:=(Below.refl w.heap.size w).alloc (Nat.le_refl _) (.cells #[.string ⟨p.path.toArray⟩,.slice p.A p.files.length p.c] 24)
 have HB0:=Lib.hid (Blk.new w 24 #[.string ⟨p.path.toArray⟩,.slice p.A p.files.length p.c])
 have HW:=Lib.hid hbw
 have hnf:=hP.nf
 have HP1:=Lib.hid (hP.keep hbw)
 have cL:=Lib.hid (yU4 rx p (nI p.files) (w.alloc (.cells #[.string ⟨p.path.toArray⟩,.slice p.A p.files.length p.c] 24)) (hP.keep hbw) hR (hG.keep hbw) hs)
 clear hP hR hG hs hbw
 go_enter Tryz.func19,Tryz.ntmps19
 go_upto_region 1 with fail
 generalize w.alloc (.cells #[.string ⟨p.path.toArray⟩,.slice p.A p.files.length p.c] 24)=w1 at HB0 HW HP1 cL ⊢
 have b0:=HB0.out.cell 0
 have b1:=HB0.out.cell 1
 go_wp2_with fail
 refine cL.out.mono ?_
 rintro e w2 ⟨hb2,h⟩
 clear b0 b1 cL
 have HB2:=Lib.hid hb2
 rcases h with ⟨h0,rfl⟩ | ⟨h0,hok,R,σ0,σ,env,rs,hRt,hV,h⟩
 ·have HE:=Lib.hid (zI7 h0)
  have H0:=Lib.hid h0
  generalize zV0 rx p=ee at h0 HE H0 ⊢
  have HR:=Lib.hid (show zF1 rx p w (.returned (.tuple #[.slice none 0 0,.int .i64 ee])) w2 from by
   refine⟨[],⟨none,0,by rw[HE.out];rfl,.inl rfl,Nat.zero_le _,HW.out.trans (HB2.out.mono HW.out.size)⟩,fun _=>rfl,fun h=>?_⟩
   rw[HE.out] at h
   exact absurd h H0.out)
  go_wp2
  refine bodyPost_ret (v:=.tuple #[.slice none 0 0,.int .i64 ee]) (by simp[results,Tryz.results19,go_sem]) rfl HR.out
 ·have ht:=zP2 hRt hV
  have hE:=zN4 h0
  rw[←ht] at hE
  rcases h with ⟨h6,rfl⟩ | ⟨h6,rfl,Im,hO⟩
  ·rw[h6,if_pos rfl] at hE
   have HR:=Lib.hid (show zF1 rx p w (.returned (.tuple #[.slice none 0 0,.int .i64 6])) w2 from by
    refine⟨[],⟨none,0,by rw[hE];rfl,.inl rfl,Nat.zero_le _,HW.out.trans (HB2.out.mono HW.out.size)⟩,fun _=>rfl,fun h=>?_⟩
    rw[hE] at h
    exact absurd h (by decide))
   clear h0 hok hRt hV ht hE h6 hb2
   go_wp2
   refine bodyPost_ret (v:=.tuple #[.slice none 0 0,.int .i64 6]) (by simp[results,Tryz.results19,go_sem]) rfl HR.out
  ·rw[h6,if_neg (by decide)] at hE
   have HQ:=Lib.hid (show ∀ e w',xW0 (srtD (unA σ.ρ.objs σ.ρ.all++impU σ.ρ.usedI 0 p.files)) 0 w e w'→zF1 rx p w e w' from fun e w' h=>⟨_,by rw[hE];exact h,fun h=>absurd hE h,fun _=>⟨R,σ0,σ,env,rs,hRt,hV,rfl⟩⟩)
   have HAK:=Lib.hid (yD7 hRt hV)
   have HP2:=Lib.hid (HP1.out.keep hb2)
   obtain⟨Av,cv,hav⟩:=zV2 hO.st.al
   have HAl:=Lib.hid (show Sl w2 w2.heap.size 1 (fun b=>[lptr b]) Av σ.ρ.all from by
    have h:=hO.st.al
    rw[hav,List.map_eq_flatMap] at h
    exact(zO1 (k:=1) (enc:=fun b=>[lptr b]) (fun _=>rfl) (.inl h) (by decide)).2)
   have hrc:=hO.st.rs.rc
   rw[hav] at hrc
   have HRc:=Lib.hid hrc
   have HRl:=Lib.hid hO.st.rs.rl
   have HOb:=Lib.hid hO.st.rs.ob
   have HMp:=Lib.hid hO.st.rs.mp
   have HNu:=Lib.hid hO.nu
   have HIm:=Lib.hid hRt.im
   have HBu:=Lib.hid (show σ.ρ.all.length+nI p.files≤1099511627776 from by have:=hO.st.bu;omega)
   have HBx:=Lib.hid (HB0.out.keep hb2)
   have HBl:=Lib.hid (show w.heap.size < w2.heap.size from HBx.out.lt)
   clear h0 hok hRt hV ht hE h6 hO hav hrc HB0 HP1
   have HW2:=Lib.hid (HW.out.trans (HB2.out.mono HW.out.size))
   clear hb2 HW HB2
   have r5:=HRc.out.cell 5
   have hal:σ.ρ.all.length≤1099511627776:=by have:=HBu.out;omega
   go_upto_region 6 with fail
   clear r5
   go_loopw [6,26] (fun vv iv wq=>∃ (i:Nat) (Ao:Option Addr) (lo co:Nat),i≤σ.ρ.all.length∧iv=.int .i64 (i:Nat)∧vv=.slice Ao lo co∧Hid (lo=(unA σ.ρ.objs (σ.ρ.all.take i)).length)∧Hid (wq.ownsRow w2.heap.size 42 4 (.slice Ao lo co) lo ((unA σ.ρ.objs (σ.ρ.all.take i)).flatMap zJ2))∧Hid (Below w2.heap.size w2 wq)) (fun _ iv _=>σ.ρ.all.length-(intOf iv).toNat)
   case atStart=>exact⟨0,none,0,0,Nat.zero_le _,rfl,rfl,Lib.hid rfl,Lib.hid (World.ownsRow_nil _ _ _ _),Lib.hid (Below.refl _ _)⟩
   case round=>
    obtain⟨i,Ao,lo,co,hi,rfl,rfl,HLo,HOw,HB⟩:=hrel
    by_cases hlt:i < σ.ρ.all.length
    ·have hlt':(i:Int) < (σ.ρ.all.length:Int):=by omega
     obtain⟨bb,off,hA,hbW,hc⟩:=HAl.out.at_ hlt
     have c0:=zZ4 HB.out hbW (hc 0 _ rfl)
     simp only[Nat.mul_one,Nat.add_zero] at c0
     obtain⟨o,ho,hob,hun⟩:=unB_at (HAK.out _ (List.getElem_mem hlt))
     have HUn:=Lib.hid (show unA σ.ρ.objs (σ.ρ.all.take (i+1))=unA σ.ρ.objs (σ.ρ.all.take i)++if o.used=true then[] else[obDf o] from by
      rw[List.take_succ_eq_append_getElem hlt,unA_snoc,hun])
     rw[←hob] at c0
     unfold lptr at c0
     have hol:o.blk < w2.heap.size:=HOb.out.lt o ho
     obtain⟨d2,d10,d12,d13⟩:=obC ((HOb.out.keep HB.out).at_ o ho)
     clear hc hun hob ho
     by_cases hu:o.used=true
     ·rw[hu] at d13
      rw[hu,if_pos rfl,List.append_nil] at HUn
      clear hu
      go_wp2
      go_roundw
      case rel=>exact⟨i+1,Ao,lo,co,by omega,by go_num,rfl,by rw[HUn.out];exact HLo,by rw[HUn.out];exact HOw,HB⟩
      case measure=>simp[intOf];omega
     ·rw[if_neg hu] at HUn
      rw[Bool.not_eq_true] at hu
      rw[hu] at d13
      clear hu
      have hlo2:lo≤1099511627776:=by
       have h1:=HLo.out
       have h2:=yK2 σ.ρ.objs (σ.ρ.all.take i)
       rw[List.length_take] at h2
       omega
      go_upto_region 9 with fail
      clear d13 c0 hA hbW
      obtain⟨wd,hwd⟩:∃ wd,wr.drew=wd:=⟨_,rfl⟩
      have hbd:Below w2.heap.size w2 wd:=by rw[←hwd];exact HB.out.drew
      have HBd:=Lib.hid hbd
      have hbd0:Below wr.heap.size wr wd:=by rw[←hwd];exact(Below.refl _ _).drew
      have hold:o.blk < wd.heap.size:=Nat.lt_of_lt_of_le hol hbd.size
      obtain⟨A7,c7,w7,hrun0,hown7,hB7⟩:=row_appD (obDf o) (yS6 HOw.out hbd0) hbd.size hlo2
      have hrun:=Lib.hid (show (Builtin.append_ #[35,35] 35 #[.slice Ao lo co,.slice (some ⟨wd.heap.size,0,none⟩) 1 1]).run Tryz.prog (wd.alloc (.cells #[.int .i64 (o.file:Nat),.int .i64 (posD o.d),.string ⟨(lblD o.d).toArray⟩,.int .i64 2] 42))=.ok (.slice A7 (lo+1) c7) w7 from hrun0)
      have HO7:=Lib.hid hown7
      have HB7:=Lib.hid hB7
      replace d2:=(hbd0.cell (p:=⟨o.blk,2,none⟩) (Nat.lt_of_lt_of_le hol HB.out.size)).trans d2
      replace d10:=(hbd0.cell (p:=⟨o.blk,10,none⟩) (Nat.lt_of_lt_of_le hol HB.out.size)).trans d10
      replace d12:=(hbd0.cell (p:=⟨o.blk,12,none⟩) (Nat.lt_of_lt_of_le hol HB.out.size)).trans d12
      clear hrun0 hown7 hB7 hbd hbd0 hlo2
      apply zU0 (by kernel_rfl) [isv _,isv _,isv _,isv _,isv _,isv _,isv _,isv _,isv _,isv _,isv _,isv _,isv _,isv _,isv _,isv _,isv _,isv _] (fun D A W=>(D 17=false∧((D 16=false∧wd=W)∨(D 16=true∧(wd.alloc (.cells #[.int .i64 (o.file:Nat),.int .i64 (posD o.d),.string ⟨(lblD o.d).toArray⟩,.int .i64 2] 42))=W)))∨(D 17=true∧(fun _ W=>w7=W) A W)) (.inl ⟨rfl,.inl ⟨rfl,hwd.symm⟩⟩) (by kernel_rfl) (by kernel_rfl) (by kernel_rfl) (by kernel_rfl) (by kernel_rfl) (And.intro (zZ2 _) (And.intro (zZ2 _) (And.intro (zZ2 _) (And.intro (zZ2 _) (And.intro (zZ2 _) (And.intro (zZ2 _) (And.intro (zZ2 _) (And.intro (zZ2 _) (And.intro (zZ2 _) (And.intro (zZ2 _) (And.intro (zZ2 _) (And.intro (zZ2 _) (And.intro (zZ2 _) (And.intro (zZ2 _) (And.intro (zZ2 _) (And.intro (zZ2 _) (And.intro (zZ2 _) (And.intro (zZ2 _) trivial)))))))))))))))))) ?steps (by rfl) _ rfl rfl ?fin
      case steps=>
       refine(And.intro ?o0 (And.intro ?o1 (And.intro ?o2 (And.intro ?o3 (And.intro ?o4 (And.intro ?o5 (And.intro ?o6 (And.intro ?o7 (And.intro ?o8 (And.intro ?o9 (And.intro ?o10 (And.intro ?o11 (And.intro ?o12 (And.intro ?o13 (And.intro ?o14 (And.intro ?o15 (And.intro ?o16 (And.intro ?o17 trivial))))))))))))))))))
       case o0=>
        intro AA W D KK QQ hsz hP hi hdn hnd hs hd hl hk
        have HSZ:=Lib.hid hsz
        clear hsz
        have hP0:=hP
        have hc:=hnd 17 (by kernel_rfl)
        have hB:Below wd.heap.size wd W:=by
         rcases phA hP hc with ⟨_,hW⟩ | ⟨_,hW⟩
         ·rw[←hW];exact Below.refl _ _
         ·rw[←hW];exact(Below.refl _ _).alloc (Nat.le_refl _) _
        have sl6:=hl 18 6 _ (by kernel_rfl) rfl rfl
        clear hs hd hl hdn hnd
        go_simp
        exact hk _ _ rfl (.inl ⟨hc,phA hP0 hc⟩)
       case o1=>
        intro AA W D KK QQ hsz hP hi hdn hnd hs hd hl hk
        have HSZ:=Lib.hid hsz
        clear hsz
        have hP0:=hP
        have hc:=hnd 17 (by kernel_rfl)
        have hW:=phA (phA hP hc) (hnd 16 (by kernel_rfl))
        subst hW
        have sl8:=hs 8 _ (by kernel_rfl) rfl
        clear hs hd hl hdn hnd
        go_simp
        exact hk _ _ rfl (.inl ⟨hc,phA hP0 hc⟩)
       case o2=>
        intro AA W D KK QQ hsz hP hi hdn hnd hs hd hl hk
        have HSZ:=Lib.hid hsz
        clear hsz
        have hP0:=hP
        have hc:=hnd 17 (by kernel_rfl)
        have hW:=phA (phA hP hc) (hnd 16 (by kernel_rfl))
        subst hW
        obtain⟨_,sl36,rfl⟩:=hd 1 36 (by kernel_rfl) rfl
        clear hs hd hl hdn hnd
        go_simp
        exact hk _ _ rfl (.inl ⟨hc,phA hP0 hc⟩)
       case o3=>
        intro AA W D KK QQ hsz hP hi hdn hnd hs hd hl hk
        have HSZ:=Lib.hid hsz
        clear hsz
        have hP0:=hP
        have hc:=hnd 17 (by kernel_rfl)
        have hW:=phA (phA hP hc) (hnd 16 (by kernel_rfl))
        subst hW
        obtain⟨_,sl37,rfl⟩:=hd 2 37 (by kernel_rfl) rfl
        clear hs hd hl hdn hnd
        go_simp
        exact hk _ _ rfl (.inl ⟨hc,phA hP0 hc⟩)
       case o4=>
        intro AA W D KK QQ hsz hP hi hdn hnd hs hd hl hk
        have HSZ:=Lib.hid hsz
        clear hsz
        have hP0:=hP
        have hc:=hnd 17 (by kernel_rfl)
        have hW:=phA (phA hP hc) (hnd 16 (by kernel_rfl))
        subst hW
        obtain⟨_,sl38,rfl⟩:=hd 3 38 (by kernel_rfl) rfl
        clear hs hd hl hdn hnd
        go_simp
        exact hk _ _ rfl (.inl ⟨hc,phA hP0 hc⟩)
       case o5=>
        intro AA W D KK QQ hsz hP hi hdn hnd hs hd hl hk
        have HSZ:=Lib.hid hsz
        clear hsz
        have hP0:=hP
        have hc:=hnd 17 (by kernel_rfl)
        have hW:=phA (phA hP hc) (hnd 16 (by kernel_rfl))
        subst hW
        have sl8:=hs 8 _ (by kernel_rfl) rfl
        clear hs hd hl hdn hnd
        go_simp
        exact hk _ _ rfl (.inl ⟨hc,phA hP0 hc⟩)
       case o6=>
        intro AA W D KK QQ hsz hP hi hdn hnd hs hd hl hk
        have HSZ:=Lib.hid hsz
        clear hsz
        have hP0:=hP
        have hc:=hnd 17 (by kernel_rfl)
        have hW:=phA (phA hP hc) (hnd 16 (by kernel_rfl))
        subst hW
        obtain⟨_,sl40,rfl⟩:=hd 5 40 (by kernel_rfl) rfl
        clear hs hd hl hdn hnd
        go_simp
        exact hk _ _ rfl (.inl ⟨hc,phA hP0 hc⟩)
       case o7=>
        intro AA W D KK QQ hsz hP hi hdn hnd hs hd hl hk
        have HSZ:=Lib.hid hsz
        clear hsz
        have hP0:=hP
        have hc:=hnd 17 (by kernel_rfl)
        have hW:=phA (phA hP hc) (hnd 16 (by kernel_rfl))
        subst hW
        obtain⟨_,sl41,rfl⟩:=hd 6 41 (by kernel_rfl) rfl
        clear hs hd hl hdn hnd
        go_simp
        exact hk _ _ rfl (.inl ⟨hc,phA hP0 hc⟩)
       case o8=>
        intro AA W D KK QQ hsz hP hi hdn hnd hs hd hl hk
        have HSZ:=Lib.hid hsz
        clear hsz
        have hP0:=hP
        have hc:=hnd 17 (by kernel_rfl)
        have hW:=phA (phA hP hc) (hnd 16 (by kernel_rfl))
        subst hW
        obtain⟨_,sl42,rfl⟩:=hd 7 42 (by kernel_rfl) rfl
        clear hs hd hl hdn hnd
        go_simp
        exact hk _ _ rfl (.inl ⟨hc,phA hP0 hc⟩)
       case o9=>
        intro AA W D KK QQ hsz hP hi hdn hnd hs hd hl hk
        have HSZ:=Lib.hid hsz
        clear hsz
        have hP0:=hP
        have hc:=hnd 17 (by kernel_rfl)
        have hW:=phA (phA hP hc) (hnd 16 (by kernel_rfl))
        subst hW
        obtain⟨_,sl43,rfl⟩:=hd 8 43 (by kernel_rfl) rfl
        clear hs hd hl hdn hnd
        go_simp
        exact hk _ _ rfl (.inl ⟨hc,phA hP0 hc⟩)
       case o10=>
        intro AA W D KK QQ hsz hP hi hdn hnd hs hd hl hk
        have HSZ:=Lib.hid hsz
        clear hsz
        have hP0:=hP
        have hc:=hnd 17 (by kernel_rfl)
        have hW:=phA (phA hP hc) (hnd 16 (by kernel_rfl))
        subst hW
        have sl8:=hs 8 _ (by kernel_rfl) rfl
        clear hs hd hl hdn hnd
        go_simp
        exact hk _ _ rfl (.inl ⟨hc,phA hP0 hc⟩)
       case o11=>
        intro AA W D KK QQ hsz hP hi hdn hnd hs hd hl hk
        have HSZ:=Lib.hid hsz
        clear hsz
        have hP0:=hP
        have hc:=hnd 17 (by kernel_rfl)
        have hW:=phA (phA hP hc) (hnd 16 (by kernel_rfl))
        subst hW
        obtain⟨_,sl45,rfl⟩:=hd 10 45 (by kernel_rfl) rfl
        clear hs hd hl hdn hnd
        go_simp
        exact hk _ _ rfl (.inl ⟨hc,phA hP0 hc⟩)
       case o12=>
        intro AA W D KK QQ hsz hP hi hdn hnd hs hd hl hk
        have HSZ:=Lib.hid hsz
        clear hsz
        have hP0:=hP
        have hc:=hnd 17 (by kernel_rfl)
        have hW:=phA (phA hP hc) (hnd 16 (by kernel_rfl))
        subst hW
        obtain⟨_,sl46,rfl⟩:=hd 11 46 (by kernel_rfl) rfl
        clear hs hd hl hdn hnd
        go_simp
        exact hk _ _ rfl (.inl ⟨hc,phA hP0 hc⟩)
       case o13=>
        intro AA W D KK QQ hsz hP hi hdn hnd hs hd hl hk
        have HSZ:=Lib.hid hsz
        clear hsz
        have hP0:=hP
        have hc:=hnd 17 (by kernel_rfl)
        have hW:=phA (phA hP hc) (hnd 16 (by kernel_rfl))
        subst hW
        obtain⟨_,sl47,rfl⟩:=hd 12 47 (by kernel_rfl) rfl
        clear hs hd hl hdn hnd
        go_simp
        exact hk _ _ rfl (.inl ⟨hc,phA hP0 hc⟩)
       case o14=>
        intro AA W D KK QQ hsz hP hi hdn hnd hs hd hl hk
        have HSZ:=Lib.hid hsz
        clear hsz
        have hP0:=hP
        have hc:=hnd 17 (by kernel_rfl)
        have hW:=phA (phA hP hc) (hnd 16 (by kernel_rfl))
        subst hW
        obtain⟨_,sl48,rfl⟩:=hd 13 48 (by kernel_rfl) rfl
        clear hs hd hl hdn hnd
        go_simp
        exact hk _ _ rfl (.inl ⟨hc,phA hP0 hc⟩)
       case o15=>
        intro AA W D KK QQ hsz hP hi hdn hnd hs hd hl hk
        have HSZ:=Lib.hid hsz
        clear hsz
        have hP0:=hP
        have hc:=hnd 17 (by kernel_rfl)
        have hW:=phA (phA hP hc) (hnd 16 (by kernel_rfl))
        subst hW
        obtain⟨_,sl39,rfl⟩:=hd 4 39 (by kernel_rfl) rfl
        obtain⟨_,sl44,rfl⟩:=hd 9 44 (by kernel_rfl) rfl
        obtain⟨_,sl49,rfl⟩:=hd 14 49 (by kernel_rfl) rfl
        clear hs hd hl hdn hnd
        go_simp
        exact hk _ _ rfl (.inl ⟨hc,phA hP0 hc⟩)
       case o16=>
        intro AA W D KK QQ hsz hP hi hdn hnd hs hd hl hk
        have HSZ:=Lib.hid hsz
        clear hsz
        have hc:=hnd 17 (by kernel_rfl)
        have hW:=phA (phA hP hc) hi
        subst hW
        obtain⟨_,sl50,rfl⟩:=hd 15 50 (by kernel_rfl) rfl
        clear hs hd hl hdn hnd
        go_simp
        exact hk _ _ rfl (.inl ⟨hc,.inr ⟨rfl,rfl⟩⟩)
       case o17=>
        intro AA W D KK QQ hsz hP hi hdn hnd hs hd hl hk
        have HSZ:=Lib.hid hsz
        clear hsz
        have hW:=phB (phA hP hi) (hdn 16 (by kernel_rfl))
        subst hW
        obtain⟨_,sl35,rfl⟩:=hd 0 35 (by kernel_rfl) rfl
        obtain⟨_,sl51,rfl⟩:=hd 16 51 (by kernel_rfl) rfl
        clear hs hd hl hdn hnd
        skip
        refine wp_appO1 (.tmp 35) (.tmp 51) 35 35 rfl _ _ (by simp[go_sem,sl35]) (by simp[go_sem,sl51]) hrun.out ?_
        exact hk _ _ rfl (.inr ⟨rfl,rfl⟩)
      case fin=>
       intro w16 D A0 hD hP GG hGG
       have hP2:=phB hP (hD 17 (by decide))
       refine zZ0 35 rfl ?_
       refine zZ0 36 rfl ?_
       refine zZ0 37 rfl ?_
       refine zZ0 38 rfl ?_
       refine zZ0 39 rfl ?_
       refine zZ0 40 rfl ?_
       refine zZ0 41 rfl ?_
       refine zZ0 42 rfl ?_
       refine zZ0 43 rfl ?_
       refine zZ0 44 rfl ?_
       refine zZ0 45 rfl ?_
       refine zZ0 46 rfl ?_
       refine zZ0 47 rfl ?_
       refine zZ0 48 rfl ?_
       refine zZ0 49 rfl ?_
       refine zZ0 50 rfl ?_
       refine zZ0 51 rfl ?_
       refine zZ0 52 rfl ?_
       refine zH2 _ _ _ _ _ _ _ _ _ _ _ _ _ _ _ _ _ _ _ _ _ _ _ _ _ _ _ _ _ _ _ _ _ _ _ _ _ _ _ _ _ _ _ _ _ _ _ _ _ _ _ _ _ _ _ _ _ _ _ _ _ _ _ _ _ _ _ _ _ _ _ _ _ _ _ _ _ _ _ _ _ _ _ _ _ _ _ _ _ _ _ _ _ _ _ _ _ _ _ _ _ _ _ _ _ _ _ _ _ _ _ _ hGG ?_
       intro hA0
       subst hA0
       have hww:w7=w16:=hP2
       subst hww
       go_wp2
       go_roundw
       case rel=>exact⟨i+1,A7,lo+1,c7,by omega,by go_num,rfl,Lib.hid (by rw[HUn.out,List.length_append,←HLo.out];rfl),by rw[HUn.out];exact HO7,Lib.hid (HBd.out.trans HB7.out)⟩
       case measure=>simp[intOf];omega
    ·obtain rfl:i=σ.ρ.all.length:=by omega
     rw[List.take_length] at HLo HOw
     have HLl:=Lib.hid (show (unA σ.ρ.objs σ.ρ.all).length+nI p.files≤1099511627776 from by have h1:=HBu.out;have h2:=yK2 σ.ρ.objs σ.ρ.all;omega)
     generalize unA σ.ρ.objs σ.ρ.all=L1 at HLo HOw HLl HQ
     generalize hus:σ.ρ.usedI=us at HMp HQ
     clear hlt hus HAl HAK HOb hal HBu hi
     have b1:=((Kp.low HB.out).blk HBx.out (by have:=HBl.out;omega)).cell 1
     go_upto_region 12 with fail
     clear b1
     go_loopw [6,57] (fun vv iv wq=>∃ (i:Nat) (Ao:Option Addr) (lo co:Nat),i≤p.files.length∧iv=.int .i64 (i:Nat)∧vv=.slice Ao lo co∧Hid (lo=(L1++impU us 0 (p.files.take i)).length)∧Hid (wq.ownsRow w2.heap.size 42 4 (.slice Ao lo co) lo ((L1++impU us 0 (p.files.take i)).flatMap zJ2))∧Hid (Below w2.heap.size w2 wq)) (fun _ iv _=>p.files.length-(intOf iv).toNat)
     case atStart=>exact⟨0,Ao,lo,co,Nat.zero_le _,rfl,rfl,by simpa[impU] using HLo,by simpa[impU] using HOw,HB⟩
     case round=>
      clear HLo HOw HB
      obtain⟨i,Ao,lo,co,hi,rfl,rfl,HLo,HOw,HB⟩:=hrel
      by_cases hlt:i < p.files.length
      ·have hlt':(i:Int) < (p.files.length:Int):=by omega
       obtain⟨bb,off,hA,hbW,hc⟩:=HP2.out.ok.files.1.at_ hlt
       obtain⟨c0,c1,c2,c3⟩:=yL3 hc
       clear hc
       replace c0:=zZ4 HB.out hbW c0
       replace c1:=zZ4 HB.out hbW c1
       replace c2:=zZ4 HB.out hbW c2
       replace c3:=zZ4 HB.out hbW c3
       have HFe:=Lib.hid (show p.files[i]? = some p.files[i] from List.getElem?_eq_getElem hlt)
       have HM:=Lib.hid (show p.files[i]∈p.files from List.getElem_mem hlt)
       have HTk:=Lib.hid (show impU us 0 (p.files.take (i+1))=impU us 0 (p.files.take i)++imp1 us i p.files[i].imps from by
        rw[List.take_succ_eq_append_getElem hlt,yO6]
        have e:0+(p.files.take i).length=i:=by rw[List.length_take];omega
        rw[e])
       have HNi:=Lib.hid (show (impU us 0 (p.files.take i)).length+p.files[i].imps.length≤nI p.files from by
        have h1:=nI_take p.files i hlt
        have h2:=yS1 us (p.files.take i) 0
        omega)
       have HFi:=Lib.hid (show i < p.files.length from hlt)
       generalize p.files[i]=f at c0 c1 c2 c3 HM HFe HTk HNi
       obtain⟨fpkg,fAi,fci,fimps,fAd,fcd,fdecls,fAt,fct,ftail⟩:=f
       dsimp only at c0 c1 c2 c3 HTk HNi
       have hba:=(Below.refl wr.heap.size wr).alloc (Nat.le_refl _) (.cells #[.string ⟨fpkg.toArray⟩,.slice fAi fimps.length fci,.slice fAd fdecls.length fcd,.slice fAt ftail.length fct] 58)
       have B1:=Lib.hid (Blk.new wr 58 #[.string ⟨fpkg.toArray⟩,.slice fAi fimps.length fci,.slice fAd fdecls.length fcd,.slice fAt ftail.length fct])
       have HOb:=Lib.hid (yS6 HOw.out hba)
       have HBb:=Lib.hid (HB.out.trans (hba.mono HB.out.size))
       have HGf:=Lib.hid (show w2.heap.size≤wr.heap.size from HB.out.size)
       go_upto_region 14 with fail
       clear c0 c1 c2 c3 hbW hA hba HOw HB
       obtain⟨gF,hgF⟩:∃ gF,gF=wr.heap.size:=⟨_,rfl⟩
       rw[←hgF] at B1 HGf ⊢
       generalize wr.alloc (.cells #[.string ⟨fpkg.toArray⟩,.slice fAi fimps.length fci,.slice fAd fdecls.length fcd,.slice fAt ftail.length fct] 58)=wb at B1 HOb HBb ⊢
       clear hgF
       have HIm2:=Lib.hid ((HP2.out.ok.each _ HM.out).imps)
       have HNl:=Lib.hid ((HP2.out.ok.each _ HM.out).names)
       have him:fimps.length≤1048576:=(HP2.out.sz _ HM.out).1
       obtain⟨b0,b1,b2,b3⟩:=zC4 B1.out
       go_upto_region 15 with fail
       clear b0 b1 b2 b3 B1
       go_loopw [6,65] (fun vv jv wq=>∃ (j:Nat) (Ao:Option Addr) (lo co:Nat),j≤fimps.length∧jv=.int .i64 (j:Nat)∧vv=.slice Ao lo co∧Hid (lo=(L1++impU us 0 (p.files.take i)++imp1 us i (fimps.take j)).length)∧Hid (wq.ownsRow w2.heap.size 42 4 (.slice Ao lo co) lo ((L1++impU us 0 (p.files.take i)++imp1 us i (fimps.take j)).flatMap zJ2))∧Hid (Below w2.heap.size w2 wq)) (fun _ jv _=>fimps.length-(intOf jv).toNat)
       case atStart=>exact⟨0,Ao,lo,co,Nat.zero_le _,rfl,rfl,by simpa[imp1] using HLo,by simpa[imp1] using HOb,HBb⟩
       case round=>
        clear HLo HOb HBb
        obtain⟨j,Ao,lo,co,hj,rfl,rfl,HLo,HOw,HB⟩:=hrel
        by_cases hjl:j < fimps.length
        ·have hjl':(j:Int) < (fimps.length:Int):=by omega
         have HTx:=Lib.hid (show imp1 us i (fimps.take (j+1))=imp1 us i (fimps.take j)++(if fimps[j].name∈us.getD i [] then[] else[⟨i,fimps[j].pos,fimps[j].name,4⟩]) from by rw[List.take_succ_eq_append_getElem hjl,xX9])
         have HNx:=Lib.hid (HNl.out _ (List.getElem_mem hjl))
         have HLj:=Lib.hid (show lo≤1099511627776 from by
          have h1:=HLo.out
          have h2:=yI6 us i (fimps.take j)
          have h3:=HNi.out
          have h4:=HLl.out
          rw[List.length_append,List.length_append] at h1
          rw[List.length_take] at h2
          omega)
         obtain⟨bb,off,hA,hbW,hc⟩:=HIm2.out.1.at_ hjl
         generalize fimps[j]=x at hc HTx HNx
         obtain⟨xn,xp,xq⟩:=x
         dsimp only at HTx HNx
         have c0:=zZ4 HB.out hbW (hc 0 _ rfl)
         have c1:=zZ4 HB.out hbW (hc 1 _ rfl)
         have c2:=zZ4 HB.out hbW (hc 2 _ rfl)
         dsimp only[Nat.add_zero] at c0 c1 c2
         have hba:=(Below.refl wr.heap.size wr).alloc (Nat.le_refl _) (.cells #[.string ⟨xn.toArray⟩,.string ⟨xp.toArray⟩,.int .i64 xq] 60)
         have Bx:=Lib.hid (Blk.new wr 60 #[.string ⟨xn.toArray⟩,.string ⟨xp.toArray⟩,.int .i64 xq])
         have HOx:=Lib.hid (yS6 HOw.out hba)
         have HBx2:=Lib.hid (HB.out.trans (hba.mono HB.out.size))
         go_upto_region 17 with fail
         clear c0 c1 c2 hA hbW hba hc HOw HB
         obtain⟨gx,hgx⟩:∃ gx,gx=wr.heap.size:=⟨_,rfl⟩
         rw[←hgx] at Bx ⊢
         generalize wr.alloc (.cells #[.string ⟨xn.toArray⟩,.string ⟨xp.toArray⟩,.int .i64 xq] 60)=wx at Bx HOx HBx2 ⊢
         clear hgx
         have hfu:i < R.uB.length:=by rw[HNu.out];exact HFi.out
         obtain⟨gu,au,hAu,hgu,hBu,hau⟩:∃ g cs,R.Au=some ⟨g,0,none⟩∧g < w2.heap.size∧Blk w2 g 103 cs∧cs[i]? = some (.map (some R.uB[i])):=by
          rcases HMp.out.us with h | ⟨g,cs,h1,h2,h3,h4⟩
          ·rw[h] at hfu
           simp at hfu
          ·exact⟨g,cs,h1,h2,h3,h4 i hfu⟩
         have hM:=HMp.out.mu i hfu
         have hMb:=HMp.out.uB _ (List.getElem_mem hfu)
         generalize R.uB[i]=bu at hau hM hMb
         have u0:wx.cell? ⟨gu,i,none⟩=some (.map (some bu)):=by rw[((Kp.low HBx2.out).blk hBu (by omega)).cell i,hau]
         have r4:=((Kp.low HBx2.out).blk HRc.out (by have:=HRl.out;omega)).cell 4
         have x0:=Bx.out.cell 0
         simp only[List.getElem?_toArray,List.getElem?_cons_succ,List.getElem?_cons_zero,hAu] at r4
         have hM2:OMap KS wx bu _ _:=hM.keptK (Kp.low HBx2.out) (by omega)
         obtain⟨bm,hbm⟩:∃ bm,bm=decide (xn∈us.getD i []):=⟨_,rfl⟩
         have HLK:=Lib.hid (show ∀ W,Below wx.heap.size wx W→(Instr.lookup 103 (.map (some bu)) (.string ⟨xn.toArray⟩) false).run Tryz.prog W=.ok (.bool bm) W from fun W hB=>by
          have h:=(hM2.below hB).look Tryz.underlying103 (Tryz.zeroValue4 W) xn HNx.out
          have e:(fF (us.getD i []) xn).getD (.bool false)=.bool bm:=by
           rw[hbm]
           unfold fF
           by_cases hm:xn∈us.getD i []
           ·rw[if_pos hm,decide_eq_true hm];rfl
           ·rw[if_neg hm,decide_eq_false hm];rfl
          rw[e] at h
          exact h)
         have HBm:=Lib.hid hbm
         have hfuI:(i:Int) < (R.uB.length:Int):=by omega
         have hzr:R.r < wx.heap.size:=by have:=HRl.out;have:=HBx2.out.size;omega
         have hzu:gu < wx.heap.size:=by have:=HBx2.out.size;omega
         have hzx:gx < wx.heap.size:=Bx.out.lt
         clear hM hMb hM2 hbm hBu hau hAu
         apply zY0 (by kernel_rfl) [isv _,isv _,isv _,isv _,isv _,isv _,isv _,isv _,isv _,isv _,isv _] wx.heap.size wx (Nat.le_refl _) (Below.refl _ _).drew (by kernel_rfl) (by kernel_rfl) (by kernel_rfl) (And.intro (zZ1 _) (And.intro (zZ1 _) (And.intro (zZ1 _) (And.intro (zZ1 _) (And.intro (zZ1 _) (And.intro (zZ1 _) (And.intro (zZ1 _) (And.intro (zZ1 _) (And.intro (zZ1 _) (And.intro (zZ1 _) (And.intro (zZ1 _) trivial))))))))))) ?steps (by rfl) ?fin
         case steps=>
          refine(And.intro ?o0 (And.intro ?o1 (And.intro ?o2 (And.intro ?o3 (And.intro ?o4 (And.intro ?o5 (And.intro ?o6 (And.intro ?o7 (And.intro ?o8 (And.intro ?o9 (And.intro ?o10 trivial)))))))))))
          case o0=>
           intro AA W KK QQ hB hs hd hl hk
           have sl4:=hs 4 _ (by kernel_rfl) rfl
           clear hs hd hl
           go_simp
           exact hk _ _ rfl (Below.refl _ _)
          case o1=>
           intro AA W KK QQ hB hs hd hl hk
           obtain⟨_,sl69,rfl⟩:=hd 0 69 (by kernel_rfl) rfl
           clear hs hd hl
           go_simp
           exact hk _ _ rfl (Below.refl _ _)
          case o2=>
           intro AA W KK QQ hB hs hd hl hk
           obtain⟨_,sl70,rfl⟩:=hd 1 70 (by kernel_rfl) rfl
           clear hs hd hl
           go_simp
           exact hk _ _ rfl (Below.refl _ _)
          case o3=>
           intro AA W KK QQ hB hs hd hl hk
           obtain⟨_,sl71,rfl⟩:=hd 2 71 (by kernel_rfl) rfl
           clear hs hd hl
           have hx:=hB.cell (p:=⟨R.r,4,none⟩) hzr
           rw[r4] at hx
           go_simp
           exact hk _ _ rfl (Below.refl _ _)
          case o4=>
           intro AA W KK QQ hB hs hd hl hk
           have sl9:=hs 9 _ (by kernel_rfl) rfl
           clear hs hd hl
           go_simp
           exact hk _ _ rfl (Below.refl _ _)
          case o5=>
           intro AA W KK QQ hB hs hd hl hk
           obtain⟨_,sl72,rfl⟩:=hd 3 72 (by kernel_rfl) rfl
           obtain⟨_,sl73,rfl⟩:=hd 4 73 (by kernel_rfl) rfl
           clear hs hd hl
           go_simp
           exact hk _ _ rfl (Below.refl _ _)
          case o6=>
           intro AA W KK QQ hB hs hd hl hk
           obtain⟨_,sl74,rfl⟩:=hd 5 74 (by kernel_rfl) rfl
           clear hs hd hl
           have hx:=hB.cell (p:=⟨gu,i,none⟩) hzu
           rw[u0] at hx
           go_simp
           exact hk _ _ rfl (Below.refl _ _)
          case o7=>
           intro AA W KK QQ hB hs hd hl hk
           have sl12:=hs 12 _ (by kernel_rfl) rfl
           clear hs hd hl
           go_simp
           exact hk _ _ rfl (Below.refl _ _)
          case o8=>
           intro AA W KK QQ hB hs hd hl hk
           obtain⟨_,sl76,rfl⟩:=hd 7 76 (by kernel_rfl) rfl
           clear hs hd hl
           have hx:=hB.cell (p:=⟨gx,0,none⟩) hzx
           rw[x0] at hx
           go_simp
           exact hk _ _ rfl (Below.refl _ _)
          case o9=>
           intro AA W KK QQ hB hs hd hl hk
           obtain⟨_,sl75,rfl⟩:=hd 6 75 (by kernel_rfl) rfl
           obtain⟨_,sl77,rfl⟩:=hd 8 77 (by kernel_rfl) rfl
           clear hs hd hl
           have hlk:=HLK.out W hB
           go_simp
           exact hk _ _ rfl (Below.refl _ _)
          case o10=>
           intro AA W KK QQ hB hs hd hl hk
           obtain⟨_,sl78,rfl⟩:=hd 9 78 (by kernel_rfl) rfl
           clear hs hd hl
           go_simp
           exact hk _ _ rfl (Below.refl _ _)
         case fin=>
          intro wy hB
          refine zZ0 69 rfl ?_
          refine zZ0 70 rfl ?_
          refine zZ0 71 rfl ?_
          refine zZ0 72 rfl ?_
          refine zZ0 73 rfl ?_
          refine zZ0 74 rfl ?_
          refine zZ0 75 rfl ?_
          refine zZ0 76 rfl ?_
          refine zZ0 77 rfl ?_
          refine zZ0 78 rfl ?_
          refine zZ0 79 rfl ?_
          refine zV7 _ _ _ _ _ _ _ _ _ _ _ _ _ _ _ _ _ _ _ _ _ _ _ _ _ _ _ _ _ _ _ _ _ _ _ _ _ _ _ _ _ _ _ _ _ _ _ _ _ _ _ _ _ _ _ _ _ _ _ _ _ _ _ _ _ _ _ _ _ _ _ _ _ _ _ _ _ _ _ _ _ _ _ _ _ _ _ _ _ _ _ _ _ _ _ _ _ _ _ _ _ _ _ _ _ ?_
          have By:=Lib.hid (Bx.out.keep hB)
          have HOy:=Lib.hid (yS6 HOx.out hB)
          have HBy:=Lib.hid (HBx2.out.trans (hB.mono HBx2.out.size))
          clear hB Bx HOx HBx2 HLK u0 r4 x0 hfuI hzr hzu hzx
          cases bm
          ·have hbf:=of_decide_eq_false HBm.out.symm
           have HTy:=Lib.hid (show imp1 us i (fimps.take (j+1))=imp1 us i (fimps.take j)++ [⟨i,xq,xn,4⟩] from by rw[HTx.out,if_neg hbf])
           have x0:=By.out.cell 0
           have x2:=By.out.cell 2
           have hlj:=HLj.out
           have hbs:=HBy.out.size
           clear hbf
           go_wp2_with (at_builtin;refine zQ4 rfl (.tmp 80) (.tmp 87) 35 rfl w2.heap.size 42 4 40 elDef _ _ _ rfl (World.ownsRow.alloc HOy.out _) _ 1 _ _ rfl (by decide) (Src.lit _ 4 _ _ 1 rfl) (by simp[Value.oneCell']) (by simp only[maxLen];omega) (by omega) (by simp;omega) ?_;intro v' w4 hown' hg' hb' hob';obtain⟨A4,c4,hv4⟩:=zV2 hown';subst hv4;have HO4:=Lib.hid hown';have HB4:=Lib.hid (HBy.out.trans (((Below.refl wy.heap.size wy).alloc (Nat.le_refl _) _).mono HBy.out.size |>.trans hb'));clear hown' hg' hb' hob')
           exact⟨⟨j+1,A4,lo+1,c4,by omega,by go_num,rfl,Lib.hid (by rw[HTy.out,←List.append_assoc,List.length_append,←HLo.out];rfl),Lib.hid (by rw[HTy.out,←List.append_assoc,List.flatMap_append];exact HO4.out),HB4⟩,by simp[intOf];omega⟩
          ·have hbt:=of_decide_eq_true HBm.out.symm
           have HTy:=Lib.hid (show imp1 us i (fimps.take (j+1))=imp1 us i (fimps.take j) from by rw[HTx.out,if_pos hbt,List.append_nil])
           clear hbt
           go_wp2
           go_roundw
           case rel=>exact⟨j+1,Ao,lo,co,by omega,by go_num,rfl,by rw[HTy.out];exact HLo,by rw[HTy.out];exact HOy,HBy⟩
           case measure=>simp[intOf];omega
        ·obtain rfl:j=fimps.length:=by omega
         rw[List.take_length,List.append_assoc,←HTk.out] at HLo HOw
         go_wp2
         go_roundw
         case rel=>exact⟨i+1,Ao,lo,co,by have:=HFi.out;omega,by go_num,rfl,HLo,HOw,HB⟩
         case measure=>have:=HFi.out;simp[intOf];omega
      ·obtain rfl:i=p.files.length:=by omega
       rw[List.take_length] at HLo HOw
       have hl:(L1++impU us 0 p.files).length≤1099511627776:=by
        have h1:=HLl.out
        have h2:=yS1 us p.files 0
        rw[List.length_append]
        omega
       have hlo:=HLo.out
       have hOw:=HOw.out
       rw[hlo] at hOw
       have cS0:=xX7 (.slice Ao (L1++impU us 0 p.files).length co) (L1++impU us 0 p.files) wr w2.heap.size (NewRowK.of_owns hOw) hl
       rw[←hlo] at cS0
       have cS:=Lib.hid cS0
       have HL:=Lib.hid hl
       generalize L1++impU us 0 p.files=LL at HLo HQ cS HL
       clear hl hlo hOw cS0 HOw
       go_upto_region 21 with fail
       go_wp2_with fail
       refine cS.out.mono ?_
       rintro e w8 ⟨rfl,⟨A8,c8,l8,hv8,_,hp8,hs8,hS8⟩,hb8⟩
       have HR:=Lib.hid (show zF1 rx p w (.returned (.tuple #[.slice Ao lo co,.int .i64 0])) w8 from HQ.out _ _ (by
        have e8:l8=srtD LL:=xY1 yI4 befD_tot l8 LL hs8 hp8
        have hA:A8=Ao:=by injection hv8 with h1 _ _;exact h1.symm
        have hln:(srtD LL).length=lo:=by rw[←e8,hp8.length_eq,HLo.out]
        subst hA
        rw[e8] at hS8
        exact⟨A8,co,by rw[hln],hS8,by rw[hln,HLo.out];exact HL.out,HW2.out.trans ((HB.out.trans (hb8.mono (Nat.le_refl _))).mono HW2.out.size)⟩))
       clear hv8 hp8 hs8 hS8 hb8
       go_wp2
       refine bodyPost_ret (v:=.tuple #[.slice Ao lo co,.int .i64 0]) (by simp[results,Tryz.results19,go_sem]) rfl HR.out
end Go.Proofs.YtdgehhgjgifikaaGreatDoor
