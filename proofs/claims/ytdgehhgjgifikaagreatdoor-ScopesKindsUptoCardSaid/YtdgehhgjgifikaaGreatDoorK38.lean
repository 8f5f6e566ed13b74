/- What the claim needs of:KH KI. -/
import Derived.Test.YtdgehhgjgifikaaGreatDoorK37
namespace Go.Proofs.YtdgehhgjgifikaaGreatDoor
open Go.RowKit
def Ph4 (w0:World)(c x:Nat)(D:Nat→Bool)(A:Act)(W:World):Prop:=Below w0.heap.size w0 W∧(D c=true→∃ (g:Nat) (a b d f:Int),A.tmps[x]? = some (.pointer (some ⟨g,0,none⟩))∧w0.heap.size≤g∧Blk W g 230 #[.int .u64 a,.int .u64 b,.int .u64 d,.int .u64 f])
section
variable {w0:World}{c x i d:Nat}{D:Nat→Bool}{A:Act}{W W':World}
theorem Ph4.far (h:Ph4 w0 c x D A W)(hi:(c == i)=false)(hd:d≠x)(v:Value):Ph4 w0 c x (upd i D) (A.put (some d) v) W:=by
 refine⟨h.1,fun hc=>?_⟩;unfold upd at hc;rw[hi,Bool.false_or] at hc;obtain⟨g,a,b,d',f,h1,h2⟩:=h.2 hc;exact⟨g,a,b,d',f,by rw[zR6 hd];exact h1,h2⟩
theorem Ph4.call (h:Ph4 w0 c x D A W)(hb:Below W.heap.size W W')(hi:(c == i)=false)(hd:d≠x)(v:Value):Ph4 w0 c x (upd i D) (A.put (some d) v) W':=by
 obtain⟨_,h2⟩:=h.far hi hd v;refine⟨h.1.trans (hb.mono h.1.size),fun hc=>?_⟩;obtain⟨g,a,b,d',f,h1,h3,h4⟩:=h2 hc;exact⟨g,a,b,d',f,h1,h3,h4.keep hb⟩
theorem Ph4.made {m:Nat}(h:Ph4 w0 c x D A W)(hs:A.tmps.size=m)(hx:x < m):Ph4 w0 c x (upd c D) (A.put (some x) (.pointer (some ⟨W.heap.size,0,none⟩))) (W.alloc (.cells #[.int .u64 0,.int .u64 0,.int .u64 0,.int .u64 0] 230)):=
 ⟨h.1.alloc h.1.size _,fun _=>⟨W.heap.size,0,0,0,0,zB2 hs hx _,h.1.size,Blk.new W _ _⟩⟩
end
set_option maxRecDepth 100000 in
theorem zH1 {Q:Exit→Act→World→Prop}{W:World}{fs:List Fact}{A0:Act}{aa ab ac ad ae af ag ah ai aj ak al am an ao ap aq ar au av aw ax ay az aA aB aC aD aE aF aG aH aI aJ aK aL aM aN aO aP aQ aR aS aT aU aV aW aX aY aZ a0 a1 a2 a3 a4 a5 a6 a7 a8 a9 ba bb bc bd be bf bg bh bi bj bk bl bm bn bo bp bq br bs bt bu bv bw bx bz bA bB bC bD bE bF bG bH bI bJ bK bL bM bN bO bP bQ bR bS bT bU bV bW bX bY bZ b0 b1 b2 b3 b4 b5 b6 b7 b8 b9 ca cb cc cd ce cf cg ch ci cj ck:Value}(h:A0=Act.mk #[aa,ab,ac,ad,cj,ck,ag,ah,ai,aj,ak,al,am,an,ao,ap,aq,ar,au,av,aw,ax,ay,az,aA,aB,aC,aD,aE,aF,aG,aH,aI,aJ,aK,aL,aM,aN,aO,aP,aQ,aR,aS,aT,aU,aV,aW,aX,aY,aZ,a0,a1,a2,a3,a4,a5,a6,a7,a8,a9,ba,bb,cg,b5,b6,b7,b8,b9,ca,cb,cc,cd,ce,cf,ch,ci,bq,br,bs,bt,bu,bv,bw,bx,bz,bA,bB,bC,bD,bE,bF,bG,bH,bI,bJ,bK,bL,bM,bN,bO,bP,bQ,bR,bS,bT,bU,bV,bW,bX,bY,bZ,b0,b1,b2,b3,b4] []→Q .normal (Act.mk #[aa,ab,ac,ad,cj,ck,ag,ah,ai,aj,ak,al,am,an,ao,ap,aq,ar,au,av,aw,ax,ay,az,aA,aB,aC,aD,aE,aF,aG,aH,aI,aJ,aK,aL,aM,aN,aO,aP,aQ,aR,aS,aT,aU,aV,aW,aX,aY,aZ,a0,a1,a2,a3,a4,a5,a6,a7,a8,a9,ba,bb,cg,b5,b6,b7,b8,b9,ca,cb,cc,cd,ce,cf,ch,ci,bq,br,bs,bt,bu,bv,bw,bx,bz,bA,bB,bC,bD,bE,bF,bG,bH,bI,bJ,bK,bL,bM,bN,bO,bP,bQ,bR,bS,bT,bU,bV,bW,bX,bY,bZ,b0,b1,b2,b3,b4] []) W):zY0 W (fun B=>A0=B→Q .normal B W) [] fs (Act.put (Act.put (Act.put (Act.put (Act.put (Act.put (Act.put (Act.put (Act.put (Act.put (Act.put (Act.put (Act.put (Act.put (Act.put (Act.put (Act.mk #[aa,ab,ac,ad,ae,af,ag,ah,ai,aj,ak,al,am,an,ao,ap,aq,ar,au,av,aw,ax,ay,az,aA,aB,aC,aD,aE,aF,aG,aH,aI,aJ,aK,aL,aM,aN,aO,aP,aQ,aR,aS,aT,aU,aV,aW,aX,aY,aZ,a0,a1,a2,a3,a4,a5,a6,a7,a8,a9,ba,bb,bc,bd,be,bf,bg,bh,bi,bj,bk,bl,bm,bn,bo,bp,bq,br,bs,bt,bu,bv,bw,bx,bz,bA,bB,bC,bD,bE,bF,bG,bH,bI,bJ,bK,bL,bM,bN,bO,bP,bQ,bR,bS,bT,bU,bV,bW,bX,bY,bZ,b0,b1,b2,b3,b4] []) (some 63) b5) (some 64) b6) (some 65) b7) (some 66) b8) (some 67) b9) (some 68) ca) (some 69) cb) (some 70) cc) (some 71) cd) (some 72) ce) (some 73) cf) (some 62) cg) (some 74) ch) (some 75) ci) (some 4) cj) (some 5) ck):=
 yE1 qF h
set_option maxRecDepth 100000 in
set_option maxHeartbeats 8000000 in
theorem yE2 (b:Nat)(s:Tx)(i:Nat)(hs:s.length≤1000)(hil:i≤s.length)(hG:i < s.length→zU0 s i=40→TOk 221 5 b s i):TOk 218 5 b s i:=by
 intro w hB;have hbl:b < w.heap.size:=(show Blk _ _ _ _ from hB).lt;have hb1:=(Below.refl w.heap.size w).alloc qJ (.cells #[.int .i64 0,.int .u64 0,.int .u64 0,.int .u64 0,.int .u64 0,.slice none 0 0] 233);have HZ1:=qK (Blk.new w 233 #[.int .i64 0,.int .u64 0,.int .u64 0,.int .u64 0,.int .u64 0,.slice none 0 0]);have HP1:=qK (show PB (w.alloc (.cells #[.int .i64 0,.int .u64 0,.int .u64 0,.int .u64 0,.int .u64 0,.slice none 0 0] 233)) b s i from(show Blk _ _ _ _ from hB).keep hb1);have HK1:=qK (Kp.ofBelow hb1 (· = b));clear hB hb1;go_enter Tryz.func218,Tryz.ntmps218
 go_upto_region 1 with fail
 generalize w.alloc (.cells #[.int .i64 0,.int .u64 0,.int .u64 0,.int .u64 0,.int .u64 0,.slice none 0 0] 233)=w1 at HZ1 HK1 HP1 ⊢;have HN:=qK (zU1 b s i);have HD:=qK (fun h=>@zW8 s i h);have HH:=qK (zW7 s i);have HG:=qK hG;clear hG;generalize zU0 s i=c at HN HD HH HG;go_wp2_with fail
 refine(HN.out w1 HP1.out hs hil).mono ?_;rintro e w2 ⟨rfl,hb2⟩;have HP:=qK (show PB w2 b s i from(show Blk _ _ _ _ from HP1.out).keep hb2);have HK:=qK (HK1.out.below hb2);have HZ:=qK (HZ1.out.keep hb2);clear hb2 HP1 HK1 HZ1 HN;obtain⟨x0,x1,f1⟩:=HP.out.cells;by_cases hlt:i < s.length
 case' neg=>
  have hge:(s.length:Int)≤(i:Int):=by omega
  have HPn:=qK (show Pr 5 [] (s.drop i) none from by
   rw[List.drop_eq_nil_of_le qG];exact .one (r:=[]) (by simp) (by simp))
  go_wp2;go_quiet (fail)
  go_wp2_with fail
  refine(zX1 b _ _).mono ?_;rintro e w4 ⟨rfl,rfl⟩;exact⟨rfl,none,HPn.out,zW3 (HK.out.drewN _) (HP.out.drewN _) hil⟩
 have hge:¬ (s.length:Int)≤(i:Int):=by omega
 obtain⟨i1,hi1⟩:∃ i1,i+1=i1:=⟨_,rfl⟩;have p1:IntKind.i64.wrap ((i:Int)+1)=(i1:Int):=by simp[IntKind.wrap,IntKind.bits,IntKind.signed];omega
 have hd:=HD.out hlt;rw[hi1] at hd;have HDr:=qK hd;have hil1:i1≤s.length:=by omega
 have hbw:b < w2.heap.size:=HP.out.lt;clear hd HD;by_cases h40:c=40
 ·subst h40;have HGr:=qK (HG.out hlt rfl);clear HG hi1;go_upto_region 2 with fail
  go_quiet (fail)
  go_wp2_with fail
  have hPq:=HP.out.drewN nq;refine(HGr.out _ hPq).mono ?_;rintro e w4 ⟨o,hPr,hk4,j,hj,hP4,h⟩;have HK4:=qK ((HK.out.drewN nq).trans hk4);have hz:=hk4.blk (HZ.out.keep (qH.drewN nq)) qG;have HPr:=qK hPr;have HW4:=qK (show w.heap.size < (w2.drewN nq).heap.size from HZ.out.lt);clear hPr hk4 hPq;cases o with
  | none=>
    obtain⟨k,rfl⟩:=h;exact⟨rfl,none,HPr.out,zW3 HK4.out hP4 hj⟩
  | some q=>
    obtain⟨ht,t⟩:=q;obtain⟨rfl,r,hr,rfl,he⟩:=h;obtain⟨rk,ra,rc,rd,rf,rA,rcp,rs⟩:=r;rw[encR] at he;subst he;obtain⟨y0,y1,y2,y3,y4,y5⟩:=regC hz;obtain⟨f0,f1,f2,f3,f4,f5⟩:=regF hz;obtain⟨h6,hk6⟩:=res6 hz (.int .i64 rk) (.int .u64 ra) (.int .u64 rc) (.int .u64 rd) (.int .u64 rf) (.slice rA rs.length rcp);have H6:=qK h6;have HF:=qK (zS0 (r:=.mk rk ra rc rd rf rA rcp rs) (HK4.out.trans2 hk6 fun i hi e=>by omega) (show PB _ b s j from hk6.blk hP4 qG) hj ((hr.box hk6 (by have:=HW4.out;omega)).from (Nat.le_of_lt HW4.out)) rfl);clear hz h6 hk6 hr hP4;go_wp2;obtain⟨y0,y1,y2,y3,y4,y5⟩:=regC H6.out;unfold wrR at y0 y1 y2 y3 y4 y5;refine bodyPost_ret (v:=.agg #[.int .i64 rk,.int .u64 ra,.int .u64 rc,.int .u64 rd,.int .u64 rf,.slice rA rs.length rcp]) ?_ rfl ⟨_,HPr.out,HF.out⟩;simp[results,Tryz.results218,go_sem,y0,y1,y2,y3,y4,y5]
 have n40:¬ ((c.toNat:Int)=40):=fun h=>h40 (by apply UInt8.toNat_inj.1;exact_mod_cast h);clear HG;by_cases h91:c=91
 ·subst h91;have HS:=qK (fun w hB=>set_any b s i w hB hs hlt);rw[hi1] at HS;clear hi1 h40;go_upto_region 2 with fail
  go_quiet (fail)
  go_wp2_with fail
  refine(HS.out _ (HP.out.drewN nq)).mono ?_;rintro e w4 ⟨O,hSP,hk4,j,hj,hP4,h⟩;have HK4:=qK ((HK.out.drewN nq).trans hk4);have hz:=hk4.blk (HZ.out.keep (qH.drewN nq)) qG;have HPr:=qK (show Pr 5 [] (s.drop i) (O.map fun t=>(1,t)) from by rw[HDr.out];exact .set hSP);clear hSP hk4;cases O with
  | none=>
    obtain⟨k,rfl⟩:=h;exact⟨rfl,none,HPr.out,zW3 HK4.out hP4 hj⟩
  | some t=>
    obtain⟨rfl,k,qa,qb,qd,qf,hlf,rfl⟩:=h;unfold zR8;obtain⟨y0,y1,y2,y3,y4,y5⟩:=regC hz;obtain⟨f0,f1,f2,f3,f4,f5⟩:=regF hz;obtain⟨h6,hk6⟩:=res6 hz (.int .i64 k) (.int .u64 qa) (.int .u64 qb) (.int .u64 qd) (.int .u64 qf) (.slice none 0 0);have H6:=qK h6;have HF:=qK (zS0 (r:=yY6 k qa qb qd qf) (HK4.out.trans2 hk6 fun i hi e=>by omega) (show PB _ b s j from hk6.blk hP4 qG) hj (zM3 hlf) rfl);clear hz h6 hk6 hlf hP4;go_wp2;obtain⟨y0,y1,y2,y3,y4,y5⟩:=regC H6.out;unfold wrR at y0 y1 y2 y3 y4 y5;refine bodyPost_ret (v:=zR8 k qa qb qd qf) ?_ rfl ⟨_,HPr.out,HF.out⟩;simp[results,Tryz.results218,go_sem,y0,y1,y2,y3,y4,y5,zR8]
 have n91:¬ ((c.toNat:Int)=91):=fun h=>h91 (by apply UInt8.toNat_inj.1;exact_mod_cast h);have HOn:=qK (show Pr 5 [] (s.drop i) ((yI6 (s.drop i)).map fun t=>(1,t)) from .one (by rw[HDr.out];simpa using h40) (by rw[HDr.out];simpa using h91));clear h40 h91;by_cases h46:c=46
 ·subst h46;have HPr:=qK (show Pr 5 [] (s.drop i) (some (1,s.drop i1)) from by have h:=HOn.out;rw[HDr.out] at h ⊢;exact h);have HPa:=qK ((HP.out.drewN (0:Nat)).at_ i1);clear hi1 HPa;go_upto_region 2 with fail
  go_quiet (fail)
  have HPa:=qK ((HP.out.drewN nq).at_ i1);go_upto_region 10 with fail
  generalize (w2.drewN nq).setCell ⟨b,1,none⟩ (.int .i64 (i1:Nat))=wa at HPa ⊢;have HKa:=qK ((HK.out.drewN nq).trans HPa.out.2);have HZa:=qK (HPa.out.2.blk (HZ.out.keep (qH.drewN nq)) qG);go_wp2_with fail
  refine(zS7 0 255 wa (by decide) (by decide)).mono ?_;rintro e w5 ⟨qa,qb,qd,qf,rfl,hb5⟩;clear x0 x1 f1;have hz:=HZa.out.keep hb5;obtain⟨x0,x1,x2,x3,x4,x5⟩:=regC hz;obtain⟨f0,f1,f2,f3,f4,f5⟩:=regF hz;obtain⟨h6,hk6⟩:=res6 hz (.int .i64 2) (.int .u64 qa) (.int .u64 qb) (.int .u64 qd) (.int .u64 qf) (.slice none 0 0);have H6:=qK h6;have HF:=qK (zS0 (r:=yY6 2 qa qb qd qf) ((HKa.out.below hb5).trans2 hk6 fun i hi e=>by omega) (show PB _ b s i1 from hk6.blk ((show Blk _ _ _ _ from HPa.out.1).keep hb5) qG) hil1 (zM3 (.inl rfl)) rfl);clear hz h6 hk6;go_wp2;obtain⟨y0,y1,y2,y3,y4,y5⟩:=regC H6.out;unfold wrR at y0 y1 y2 y3 y4 y5;refine bodyPost_ret (v:=zR8 2 qa qb qd qf) ?_ rfl ⟨_,HPr.out,HF.out⟩;simp[results,Tryz.results218,go_sem,y0,y1,y2,y3,y4,y5,zR8]
 have n46:¬ ((c.toNat:Int)=46):=fun h=>h46 (by apply UInt8.toNat_inj.1;exact_mod_cast h);by_cases h92:c=92
 ·subst h92;have HE:=qK (fun w hB=>xS1 b s i 0 w hB hs hlt);rw[hi1] at HE;clear hi1 n46 h46 n91 n40;obtain⟨i2,hi2⟩:∃ i2,i1+1=i2:=⟨_,rfl⟩;by_cases hlt1:i1 < s.length
  case' pos=>
   have hlt1':(i1:Int) < (s.length:Int):=by omega
   have p2:IntKind.i64.wrap ((i:Int)+2)=(i2:Int):=by simp[IntKind.wrap,IntKind.bits,IntKind.signed] at p1 ⊢;omega
   have HD1:=qK (show s.drop i1=zU0 s i1 ::s.drop i2 from hi2▸zW8 hlt1);have HC1:=qK (show zU0 s i1=s[i1] from by unfold zU0;rw[List.getElem?_eq_getElem hlt1];rfl);have HI2:=qK (show i2≤s.length from by omega);generalize zU0 s i1=c1 at HD1 HC1;go_upto_region 2 with fail
   go_quiet (fail)
   have hPa:=HP.out.drewN nq;have hKa:=HK.out.drewN nq;have hZa:=HZ.out.keep (qH.drewN nq);have hbw2:b < (w2.drewN nq).heap.size:=hPa.lt;clear HP HK HZ x0 x1 f1 hbw;generalize w2.drewN nq=wa at hPa hKa hZa hbw2 ⊢;have HPa:=qK hPa;have HKa:=qK hKa;have HZa:=qK hZa;obtain⟨x0,x1,f1⟩:=hPa.cells;clear hPa hKa hZa;go_upto_region 12 with fail
   go_quiet (fail)
   have hPq:=HPa.out.drewN nq;have HKq:=qK (HKa.out.drewN nq);have HZq:=qK (HZa.out.keep (qH.drewN nq));have hbw:b < (wa.drewN nq).heap.size:=hPq.lt;clear HPa HKa HZa x0 x1 f1 hbw2;generalize wa.drewN nq=w2 at hPq HKq HZq hbw ⊢;have HPq:=qK hPq;obtain⟨x0,x1,f1⟩:=hPq.cells;clear hPq;go_upto_region 13 with fail
   apply zM4 qF [isv _,isv _,isv _,isv _,isv _,isv _,isv _,isv _,isv _,(fun v _=>v=.int .u8 (c1.toNat:Nat)),(fun v _=>∃ qa qb qd qf:Int,v=.tuple #[.agg #[.int .u64 qa,.int .u64 qb,.int .u64 qd,.int .u64 qf],.bool (clsP c1)]),(fun v _=>∃ qa qb qd qf:Int,v=.tuple #[.agg #[.int .u64 qa,.int .u64 qb,.int .u64 qd,.int .u64 qf],.bool (clsP c1)]),(fun v _=>∃ qa qb qd qf:Int,v=.agg #[.int .u64 qa,.int .u64 qb,.int .u64 qd,.int .u64 qf]),isv _,(fun v _=>∃ g:Nat,v=.pointer (some ⟨g,0,none⟩)),nof,isv _] (fun D A W=>Ph4 w2 14 4 D A W) (⟨qH.drew,fun h=>by cases h⟩) qF qF qF (And.intro (zU7 _) (And.intro (zU7 _) (And.intro (zU7 _) (And.intro (zU7 _) (And.intro (zU7 _) (And.intro (zU7 _) (And.intro (zU7 _) (And.intro (zU7 _) (And.intro (zU7 _) (And.intro (fun _ _ _ h=>h) (And.intro (fun _ _ _ h=>h) (And.intro (fun _ _ _ h=>h) (And.intro (fun _ _ _ h=>h) (And.intro (zU7 _) (And.intro (fun _ _ _ h=>h) (And.intro yS0 (And.intro (zU7 _) trivial))))))))))))))))) ?steps (by rfl) ?fin;case steps=>
    refine(And.intro ?o0 (And.intro ?o1 (And.intro ?o2 (And.intro ?o3 (And.intro ?o4 (And.intro ?o5 (And.intro ?o6 (And.intro ?o7 (And.intro ?o8 (And.intro ?o9 (And.intro ?o10 (And.intro ?o11 (And.intro ?o12 (And.intro ?o13 (And.intro ?o14 (And.intro ?o15 (And.intro ?o16 trivial)))))))))))))))));case o0=>exact vU
    case o1=>
     intro AA W D KK hsz hdf hP hi hdn hnd hs hd hl hk;have HSZ:=qK hsz;have _HDF:=qK hdf;clear hsz hdf;obtain⟨_,sl63,rfl⟩:=hd 0 63 qF rfl;have HPh:=qK hP;clear hs hd hl hdn hnd hi hP;go_simp;exact hk _ _ rfl (HPh.out.far rfl (by decide) _)
    case o2=>
     intro AA W D KK hsz hdf hP hi hdn hnd hs hd hl hk;have HSZ:=qK hsz;have _HDF:=qK hdf;clear hsz hdf;obtain⟨_,sl64,rfl⟩:=hd 1 64 qF rfl;have HPh:=qK hP;clear hs hd hl hdn hnd hi hP;go_simp;exact hk _ _ rfl (HPh.out.far rfl (by decide) _)
    case o3=>
     intro AA W D KK hsz hdf hP hi hdn hnd hs hd hl hk;have HSZ:=qK hsz;have _HDF:=qK hdf;clear hsz hdf;obtain⟨_,sl65,rfl⟩:=hd 2 65 qF rfl;have HPh:=qK hP;clear hs hd hl hdn hnd hi hP;have hx:=HPh.out.1.cell (p:=⟨b,0,none⟩) hbw;rw[x0] at hx;go_simp;exact hk _ _ rfl (HPh.out.far rfl (by decide) _)
    case o4=>exact vU
    case o5=>
     intro AA W D KK hsz hdf hP hi hdn hnd hs hd hl hk;have HSZ:=qK hsz;have _HDF:=qK hdf;clear hsz hdf;obtain⟨_,sl67,rfl⟩:=hd 4 67 qF rfl;have HPh:=qK hP;clear hs hd hl hdn hnd hi hP;go_simp;exact hk _ _ rfl (HPh.out.far rfl (by decide) _)
    case o6=>
     intro AA W D KK hsz hdf hP hi hdn hnd hs hd hl hk;have HSZ:=qK hsz;have _HDF:=qK hdf;clear hsz hdf;obtain⟨_,sl68,rfl⟩:=hd 5 68 qF rfl;have HPh:=qK hP;clear hs hd hl hdn hnd hi hP;go_simp;exact hk _ _ rfl (HPh.out.far rfl (by decide) _)
    case o7=>
     intro AA W D KK hsz hdf hP hi hdn hnd hs hd hl hk;have HSZ:=qK hsz;have _HDF:=qK hdf;clear hsz hdf;obtain⟨_,sl69,rfl⟩:=hd 6 69 qF rfl;have HPh:=qK hP;clear hs hd hl hdn hnd hi hP;have hx:=HPh.out.1.cell (p:=⟨b,1,none⟩) hbw;rw[x1] at hx;go_simp;exact hk _ _ rfl (HPh.out.far rfl (by decide) _)
    case o8=>
     intro AA W D KK hsz hdf hP hi hdn hnd hs hd hl hk;have HSZ:=qK hsz;have _HDF:=qK hdf;clear hsz hdf;obtain⟨_,sl70,rfl⟩:=hd 7 70 qF rfl;have HPh:=qK hP;clear hs hd hl hdn hnd hi hP;go_simp;exact hk _ _ rfl (HPh.out.far rfl (by decide) _)
    case o9=>
     intro AA W D KK hsz hdf hP hi hdn hnd hs hd hl hk;have HSZ:=qK hsz;have _HDF:=qK hdf;clear hsz hdf;obtain⟨_,sl66,rfl⟩:=hd 3 66 qF rfl;obtain⟨_,sl71,rfl⟩:=hd 8 71 qF rfl;have HPh:=qK hP;clear hs hd hl hdn hnd hi hP;go_simp;exact hk _ _ (by rw[HC1.out];rfl) (HPh.out.far rfl (by decide) _)
    case o10=>
     intro AA W D KK hsz hdf hP hi hdn hnd hs hd hl hk;have HSZ:=qK hsz;have _HDF:=qK hdf;clear hsz hdf;obtain⟨_,sl72,rfl⟩:=hd 9 72 qF rfl;have HPh:=qK hP;clear hs hd hl hdn hnd hi hP;go_simp;refine(xS3 c1 W).mono ?_;rintro e W2 ⟨qa,qb,qd,qf,rfl,hb2⟩;exact hk _ _ ⟨qa,qb,qd,qf,rfl⟩ (HPh.out.call hb2 rfl (by decide) _)
    case o11=>
     intro AA W D KK hsz hdf hP hi hdn hnd hs hd hl hk;have HSZ:=qK hsz;have _HDF:=qK hdf;clear hsz hdf;obtain⟨_,sl73,⟨qa,qb,qd,qf,rfl⟩⟩:=hd 10 73 qF rfl;have HPh:=qK hP;clear hs hd hl hdn hnd hi hP;go_simp;exact hk _ _ ⟨qa,qb,qd,qf,rfl⟩ (HPh.out.far rfl (by decide) _)
    case o12=>
     intro AA W D KK hsz hdf hP hi hdn hnd hs hd hl hk;have HSZ:=qK hsz;have _HDF:=qK hdf;clear hsz hdf;obtain⟨_,sl62,⟨qa,qb,qd,qf,rfl⟩⟩:=hd 11 62 qF rfl;have HPh:=qK hP;clear hs hd hl hdn hnd hi hP;go_simp;exact hk _ _ ⟨qa,qb,qd,qf,rfl⟩ (HPh.out.far rfl (by decide) _)
    case o13=>
     intro AA W D KK hsz hdf hP hi hdn hnd hs hd hl hk;have HSZ:=qK hsz;have _HDF:=qK hdf;clear hsz hdf;obtain⟨_,sl62,⟨qa,qb,qd,qf,rfl⟩⟩:=hd 11 62 qF rfl;have HPh:=qK hP;clear hs hd hl hdn hnd hi hP;go_simp;exact hk _ _ rfl (HPh.out.far rfl (by decide) _)
    case o14=>
     intro AA W D KK hsz hdf hP hi hdn hnd hs hd hl hk;have HSZ:=qK hsz;have _HDF:=qK hdf;clear hsz hdf;have HPh:=qK hP;clear hs hd hl hdn hnd hi hP;go_simp;exact hk _ _ ⟨_,rfl⟩ (HPh.out.made (m:=116) HSZ.out (by decide))
    case o15=>
     intro AA W D KK hsz hdf hP hi hdn hnd hs hd hl hk;have HSZ:=qK hsz;have _HDF:=qK hdf;clear hsz hdf;obtain⟨_,sl4,⟨g,rfl⟩⟩:=hd 14 4 qF rfl;obtain⟨_,sl74,⟨qa,qb,qd,qf,rfl⟩⟩:=hd 12 74 qF rfl;have h14:=hdn 14 qF;obtain⟨g2,sa,sb,sd,sf,hg2,hgz,hS⟩:=hP.2 h14;obtain rfl:g2=g:=by rw[sl4] at hg2;injection hg2 with hg2;injection hg2 with hg2;injection hg2 with hg2;injection hg2 with hg2;exact hg2.symm
     have hpt:=hP.1;have HPh:=qK hP;clear hs hd hl hdn hnd hi hP;obtain⟨z0,z1,z2,z3⟩:=setC hS;obtain⟨y0,y1,y2,y3⟩:=setF hS;obtain⟨h4,hk4⟩:=res4 hS (.int .u64 qa) (.int .u64 qb) (.int .u64 qd) (.int .u64 qf);have H4:=qK h4;have HK4:=qK hk4;have HSl:=qK sl4;have HGz:=qK hgz;have HPt:=qK hpt;clear hS h4 hk4 hg2 hgz h14 hpt HPh;go_simp;exact hk undef _ trivial ⟨HPt.out.trans (HK4.out.toBelow HPt.out.size fun b hb e=>by have:=HGz.out;omega),fun _=>⟨g2,qa,qb,qd,qf,HSl.out,HGz.out,H4.out⟩⟩
    case o16=>
     intro AA W D KK hsz hdf hP hi hdn hnd hs hd hl hk;have HSZ:=qK hsz;have _HDF:=qK hdf;clear hsz hdf;obtain⟨_,sl75,rfl⟩:=hd 13 75 qF rfl;have HPh:=qK hP;clear hs hd hl hdn hnd hi hP;go_simp;exact hk _ _ rfl (HPh.out.far rfl (by decide) _)
   case' fin=>
    intro wf D A0 hD hP;refine zR5 63 rfl ?_;refine zR5 64 rfl ?_;refine zR5 65 rfl ?_;refine zR5 66 rfl ?_;refine zR5 67 rfl ?_;refine zR5 68 rfl ?_;refine zR5 69 rfl ?_;refine zR5 70 rfl ?_;refine zR5 71 rfl ?_;refine zZ4 72 rfl ?_;rintro _ rfl;refine zZ4 73 rfl ?_;rintro _ ⟨_,_,_,_,rfl⟩;refine zZ4 62 rfl ?_;rintro _ ⟨_,_,_,_,rfl⟩;refine zZ4 74 rfl ?_;rintro _ ⟨_,_,_,_,rfl⟩;refine zR5 75 rfl ?_;refine zZ4 4 rfl ?_;rintro _ ⟨g,rfl⟩;refine yU6 rfl ?_;refine zR5 5 rfl ?_;refine zH1 ?_;intro hA0;subst hA0;have h4:=hP.2 (hD 14 (by decide));obtain⟨g2,sa,sb,sd,sf,hg2,hgz,hS⟩:=h4;obtain rfl:g2=g:=by
     have h5:some (Value.pointer (some ⟨g,0,none⟩))=some (.pointer (some ⟨g2,0,none⟩)):=hg2;injection h5 with h5
     injection h5 with h5
     injection h5 with h5
     injection h5 with h5
     exact h5.symm
    have HPf:=qK (show PB wf b s i from(show Blk _ _ _ _ from HPq.out).keep hP.1);have HKf:=qK (HKq.out.below hP.1);have HZf:=qK (HZq.out.keep hP.1);have HSf:=qK hS;have HGz:=qK (show w.heap.size < w2.heap.size∧w2.heap.size≤g2 from⟨HZq.out.lt,hgz⟩);clear hg2 hS hP hD hgz HPq HKq HZq x0 x1 f1;cases hcl:clsP c1;case' false=>
     have HPq:=HPf;have HKq:=HKf;have HZq:=HZf;have hcn:¬ ((s.drop i1).head?.map clsP=some true):=by
      rw[HD1.out];simp[hcl]
     clear HPf HKf HZf HSf HGz HD1 HC1 hcl hlt1';go_wp2_with fail
    case' true=>
     have HPr:=qK (show Pr 5 [] (s.drop i) (some (1,s.drop i2)) from by
      have h:=HOn.out;rw[HDr.out,HD1.out,yI6] at h;simp only[List.head?_cons,Option.map_some,hcl] at h;rw[HDr.out,HD1.out];exact h)
     have HPa:=qK (HPf.out.at_ i2);obtain⟨x0,x1,f1⟩:=HPf.out.cells;go_upto_region 16 with fail
     generalize wf.setCell ⟨b,1,none⟩ (.int .i64 (i2:Nat))=wa at HPa ⊢;clear x0 x1 f1 p2;obtain⟨k0,k1,k2,k3⟩:=setC (HPa.out.2.blk HSf.out (by have:=HGz.out;omega));have hz:=HPa.out.2.blk HZf.out qG;obtain⟨x0,x1,x2,x3,x4,x5⟩:=regC hz;obtain⟨f0,f1,f2,f3,f4,f5⟩:=regF hz;obtain⟨h6,hk6⟩:=res6 hz (.int .i64 2) (.int .u64 sa) (.int .u64 sb) (.int .u64 sd) (.int .u64 sf) (.slice none 0 0);have H6:=qK h6;have HF:=qK (zS0 (r:=yY6 2 sa sb sd sf) ((HKf.out.trans HPa.out.2).trans2 hk6 fun i hi e=>by omega) (show PB _ b s i2 from hk6.blk HPa.out.1 qG) HI2.out (zM3 (.inl rfl)) rfl);clear hz h6 hk6;go_wp2;obtain⟨y0,y1,y2,y3,y4,y5⟩:=regC H6.out;unfold wrR at y0 y1 y2 y3 y4 y5;refine bodyPost_ret (v:=zR8 2 sa sb sd sf) ?_ rfl ⟨_,HPr.out,HF.out⟩;simp[results,Tryz.results218,go_sem,y0,y1,y2,y3,y4,y5,zR8]
  case' neg=>
   have hge1:¬ (i1:Int) < (s.length:Int):=by omega
   go_upto_region 2 with fail
   go_quiet (fail)
   have hPa:=HP.out.drewN nq;have hKa:=HK.out.drewN nq;have hZa:=HZ.out.keep (qH.drewN nq);clear HP HK HZ x0 x1 f1 hbw;generalize w2.drewN nq=wa at hPa hKa hZa ⊢;have HPa:=qK hPa;have HKa:=qK hKa;have HZa:=qK hZa;obtain⟨x0,x1,f1⟩:=hPa.cells;clear hPa hKa hZa;go_upto_region 12 with fail
   go_quiet (fail)
   have HPq:=qK (HPa.out.drewN nq);have HKq:=qK (HKa.out.drewN nq);have HZq:=qK (HZa.out.keep (qH.drewN nq));have hcn:¬ ((s.drop i1).head?.map clsP=some true):=by
    rw[List.drop_eq_nil_of_le qG];simp
   clear HPa HKa HZa x0 x1 f1;go_wp2_with fail
  all_goals
   have hat:Pr 5 [] (s.drop i) ((escP 0 (s.drop i1)).map fun q=>(1,q.2)):=by
    have h:=HOn.out;rw[HDr.out,yI6] at h;simp only[hcn] at h;rw[HDr.out];simpa[Option.map_map,Function.comp_def] using h
   have HPn:=qK (show escP 0 (s.drop i1)=none→Pr 5 [] (s.drop i) none from fun h=>by rw[h] at hat;exact hat);have HPe:=qK (show ∀ v t,escP 0 (s.drop i1)=some (v,t)→Pr 5 [] (s.drop i) (some (1,t)) from fun v t h=>by rw[h] at hat;exact hat);clear hat hcn HOn HDr HH;refine(HE.out _ HPq.out).mono ?_;rintro e w4 ⟨hk4,j,hj,hP4,h⟩;have hkk:=HKq.out.trans hk4;have HP4:=qK hP4;have HZ4:=qK (hk4.blk HZq.out qG);have HK4:=qK hkk;clear hk4 hP4 hkk;cases hes:escP 0 (s.drop i1) with
   | none=>
     rw[hes] at h;obtain⟨k,rfl⟩:=h;exact⟨rfl,none,HPn.out hes,zW3 HK4.out HP4.out hj⟩
   | some q=>
     obtain⟨v,t⟩:=q;rw[hes] at h;obtain⟨rfl,rfl,hv⟩:=h;have HPr:=qK (HPe.out _ _ hes);have HJ:=qK hj;clear hes hj;go_wp2_with fail
     refine(xS2 v w4 hv).mono ?_;rintro e w5 ⟨qa,qb,qd,qf,rfl,hb5⟩;unfold zR8;have hz:=HZ4.out.keep hb5;obtain⟨x0,x1,x2,x3,x4,x5⟩:=regC hz;obtain⟨f0,f1,f2,f3,f4,f5⟩:=regF hz;obtain⟨h6,hk6⟩:=res6 hz (.int .i64 2) (.int .u64 qa) (.int .u64 qb) (.int .u64 qd) (.int .u64 qf) (.slice none 0 0);have H6:=qK h6;have HF:=qK (zS0 (r:=yY6 2 qa qb qd qf) ((HK4.out.below hb5).trans2 hk6 fun i hi e=>by omega) (show PB _ b s j from hk6.blk ((show Blk _ _ _ _ from HP4.out).keep hb5) qG) HJ.out (zM3 (.inl rfl)) rfl);clear hz h6 hk6;go_wp2;obtain⟨y0,y1,y2,y3,y4,y5⟩:=regC H6.out;unfold wrR at y0 y1 y2 y3 y4 y5;refine bodyPost_ret (v:=zR8 2 qa qb qd qf) ?_ rfl ⟨_,HPr.out,HF.out⟩;simp[results,Tryz.results218,go_sem,y0,y1,y2,y3,y4,y5,zR8]
 have n92:¬ ((c.toNat:Int)=92):=fun h=>h92 (by apply UInt8.toNat_inj.1;exact_mod_cast h);obtain⟨r,hr,hR⟩:=yI8 spcA c;have HIx:=qK hR;have E1:=qK (show c < 32↔(c.toNat:Int) < 32 from u8_lt c 32);have E2:=qK (show 126 < c↔126 < (c.toNat:Int) from u8_lt 126 c);have HC:=qK c.toNat_lt;have hOn:=HOn.out;rw[HDr.out,yI6,if_neg h46,if_neg h92,←HDr.out] at hOn;clear hR HOn h46 h92 hi1;by_cases h1:(c.toNat:Int) < 32
 ·rw[if_pos (.inl (E1.out.2 h1))] at hOn;have HPr:=qK hOn;clear hOn hr;go_upto_region 2 with fail
  go_quiet (fail)
  go_upto_region 19 with (refine(HIx.out _).mono ?_;rintro e w4 ⟨rfl,rfl⟩)
  have y:=(HP.out.drewN nq).cells.2.1;go_wp2_with fail
  refine(zX1 b _ _).mono ?_;rintro e w4 ⟨rfl,rfl⟩;exact⟨rfl,none,HPr.out,zW3 (HK.out.drewN _) (HP.out.drewN _) hil⟩
 by_cases h2:(126:Int) < (c.toNat:Int)
 ·rw[if_pos (.inr (.inl (E2.out.2 h2)))] at hOn;have HPr:=qK hOn;clear hOn hr;go_upto_region 2 with fail
  go_quiet (fail)
  go_upto_region 19 with (refine(HIx.out _).mono ?_;rintro e w4 ⟨rfl,rfl⟩)
  have y:=(HP.out.drewN nq).cells.2.1;go_wp2_with fail
  refine(zX1 b _ _).mono ?_;rintro e w4 ⟨rfl,rfl⟩;exact⟨rfl,none,HPr.out,zW3 (HK.out.drewN _) (HP.out.drewN _) hil⟩
 by_cases h3:r < 0
 ·have h4:=hr.1 h3;rw[if_neg (by
   rintro(h | h | h)
   ·exact h1 (E1.out.1 h)
   ·exact h2 (E2.out.1 h)
   ·exact h4 h)] at hOn
  have HPr:=qK (show Pr 5 [] (s.drop i) (some (1,s.drop i1)) from hOn);clear hOn hr h4;go_upto_region 2 with fail
  go_quiet (fail)
  have HPa:=qK ((HP.out.drewN nq).at_ i1);obtain⟨y0,y1,g1⟩:=(HP.out.drewN nq).cells;go_upto_region 21 with (refine(HIx.out _).mono ?_;rintro e w4 ⟨rfl,rfl⟩)
  generalize (w2.drewN nq).setCell ⟨b,1,none⟩ (.int .i64 (i1:Nat))=wa at HPa ⊢;have HKa:=qK ((HK.out.drewN nq).trans HPa.out.2);have HZa:=qK (HPa.out.2.blk (HZ.out.keep (qH.drewN nq)) qG);clear x0 x1 f1 y0 y1 g1;go_wp2_with fail
  refine(xS2 c.toNat wa HC.out).mono ?_;rintro e w5 ⟨qa,qb,qd,qf,rfl,hb5⟩;unfold zR8;have hz:=HZa.out.keep hb5;obtain⟨x0,x1,x2,x3,x4,x5⟩:=regC hz;obtain⟨f0,f1,f2,f3,f4,f5⟩:=regF hz;obtain⟨h6,hk6⟩:=res6 hz (.int .i64 2) (.int .u64 qa) (.int .u64 qb) (.int .u64 qd) (.int .u64 qf) (.slice none 0 0);have H6:=qK h6;have HF:=qK (zS0 (r:=yY6 2 qa qb qd qf) ((HKa.out.below hb5).trans2 hk6 fun i hi e=>by omega) (show PB _ b s i1 from hk6.blk ((show Blk _ _ _ _ from HPa.out.1).keep hb5) qG) hil1 (zM3 (.inl rfl)) rfl);clear hz h6 hk6;go_wp2;obtain⟨y0,y1,y2,y3,y4,y5⟩:=regC H6.out;unfold wrR at y0 y1 y2 y3 y4 y5;refine bodyPost_ret (v:=zR8 2 qa qb qd qf) ?_ rfl ⟨_,HPr.out,HF.out⟩;simp[results,Tryz.results218,go_sem,y0,y1,y2,y3,y4,y5,zR8]
 ·rw[if_pos (.inr (.inr (Classical.byContradiction fun h=>h3 (hr.2 h))))] at hOn;have HPr:=qK hOn;clear hOn hr;go_upto_region 2 with fail
  go_quiet (fail)
  go_upto_region 19 with (refine(HIx.out _).mono ?_;rintro e w4 ⟨rfl,rfl⟩)
  have y:=(HP.out.drewN nq).cells.2.1;go_wp2_with fail
  refine(zX1 b _ _).mono ?_;rintro e w4 ⟨rfl,rfl⟩;exact⟨rfl,none,HPr.out,zW3 (HK.out.drewN _) (HP.out.drewN _) hil⟩
theorem htR_pos:∀ r:RT,1≤htR r
 | .mk ..=>by rw[htR];omega
set_option maxRecDepth 100000 in
set_option maxHeartbeats 8000000 in
theorem yL7 (b:Nat)(s:Tx)(i:Nat)(hs:s.length≤1000)(_hil:i≤s.length)(hA:TOk 218 5 b s i):TOk 213 4 b s i:=by
 intro w hB;have hbl:b < w.heap.size:=(show Blk _ _ _ _ from hB).lt;have hb1:=(Below.refl w.heap.size w).alloc qJ (.cells #[.int .i64 0,.int .u64 0,.int .u64 0,.int .u64 0,.int .u64 0,.slice none 0 0] 233);have HZ1:=qK (Blk.new w 233 #[.int .i64 0,.int .u64 0,.int .u64 0,.int .u64 0,.int .u64 0,.slice none 0 0]);have HP1:=qK (show PB (w.alloc (.cells #[.int .i64 0,.int .u64 0,.int .u64 0,.int .u64 0,.int .u64 0,.slice none 0 0] 233)) b s i from(show Blk _ _ _ _ from hB).keep hb1);have HK1:=qK (Kp.ofBelow hb1 (· = b));have HA:=qK hA;clear hB hb1 hA;go_enter Tryz.func213,Tryz.ntmps213
 go_upto_region 1 with fail
 generalize w.alloc (.cells #[.int .i64 0,.int .u64 0,.int .u64 0,.int .u64 0,.int .u64 0,.slice none 0 0] 233)=w1 at HZ1 HK1 HP1 ⊢;go_wp2_with fail
 refine(HA.out w1 HP1.out).mono ?_;rintro e w2 ⟨o,hPr,hk2,j,hj,hP2,h⟩;have HK2:=qK (HK1.out.trans hk2);have HZ2:=qK (hk2.blk HZ1.out qG);have HG:=qK (show w.heap.size < w1.heap.size∧w1.heap.size≤w2.heap.size from⟨HZ1.out.lt,hk2.size⟩);cases o with
 | none=>
   obtain⟨k,rfl⟩:=h;exact⟨rfl,none,.pcN hPr,zW3 HK2.out hP2 hj⟩
 | some q=>
   obtain⟨ht,t⟩:=q;obtain⟨rfl,r,hr,rfl,he⟩:=h;have HPr:=qK (Pr.pc hPr);obtain⟨S,hS⟩:∃ S,zD4 (htR r) (s.drop j)=S:=⟨_,rfl⟩;rw[hS] at HPr;have HS2:=qK hS;obtain⟨rk,ra,rc,rd,rf,rA,rcp,rs⟩:=r;rw[encR] at he;subst he;have hb3:=(Below.refl w2.heap.size w2).alloc qJ (.cells #[.int .i64 rk,.int .u64 ra,.int .u64 rc,.int .u64 rd,.int .u64 rf,.slice rA rs.length rcp] 233);have HX3:=qK (Blk.new w2 233 #[.int .i64 rk,.int .u64 ra,.int .u64 rc,.int .u64 rd,.int .u64 rf,.slice rA rs.length rcp]);have HP3:=qK (show PB (w2.alloc (.cells #[.int .i64 rk,.int .u64 ra,.int .u64 rc,.int .u64 rd,.int .u64 rf,.slice rA rs.length rcp] 233)) b s j from(show Blk _ _ _ _ from hP2).keep hb3);have HK3:=qK (HK2.out.below hb3);have HZ3:=qK (HZ2.out.keep hb3);have HR3:=qK (show OkR (fun x=>w1.heap.size≤x∧x≠w2.heap.size) _ (.mk rk ra rc rd rf rA rcp rs) from((zV4 (fun b hb h=>⟨h,by omega⟩)).1 _ hr).below hb3);clear hb3 hPr hk2 hP2 hr hS HK1 HP1 HZ1 HK2 HZ2 HA;go_upto_region 2 with fail
   obtain⟨g3,hg3⟩:∃ g3,g3=w2.heap.size:=⟨_,rfl⟩;rw[←hg3] at HX3 HR3 HG ⊢;generalize w2.alloc (.cells #[.int .i64 rk,.int .u64 ra,.int .u64 rc,.int .u64 rd,.int .u64 rf,.slice rA rs.length rcp] 233)=w3 at HX3 HP3 HK3 HZ3 HR3 ⊢;clear hg3;go_loopw [] (fun wq=>∃ (j:Nat) (r:RT),j≤s.length∧Hid (PB wq b s j)∧Hid (Kp (· = b) w wq)∧Hid (Blk wq w.heap.size 233 #[.int .i64 0,.int .u64 0,.int .u64 0,.int .u64 0,.int .u64 0,.slice none 0 0])∧Hid (Blk wq g3 233 (encR r).toArray)∧Hid (OkR (fun x=>w1.heap.size≤x∧x≠g3) wq r)∧Hid (zD4 (htR r) (s.drop j)=S)) (fun wq=>s.length-atV b wq)
   case atStart=>exact⟨j,.mk rk ra rc rd rf rA rcp rs,hj,HP3,HK3,HZ3,HX3,HR3,HS2⟩
   case round=>
    clear HX3 HP3 HK3 HZ3 HR3 HS2 hj;obtain⟨j,r,hj,HPr0,HK,HZ,HX,HR,HSt⟩:=hrel;have HPo:=qK (htR_pos r);generalize hhr:htR r=hr at HSt HPo;obtain⟨rk,ra,rc,rd,rf,rA,rcp,rs⟩:=r;rw[encR] at HX;obtain⟨k0,k1,k2,k3,k4,k5⟩:=regC HX.out;have HHr:=qK hhr;clear hhr;have hbA:=(Below.refl wr.heap.size wr).alloc qJ (.cells #[.int .i64 rk,.int .u64 ra,.int .u64 rc,.int .u64 rd,.int .u64 rf,.slice rA rs.length rcp] 233);have hbB:=hbA.alloc (show wr.heap.size≤(wr.alloc (.cells #[.int .i64 rk,.int .u64 ra,.int .u64 rc,.int .u64 rd,.int .u64 rf,.slice rA rs.length rcp] 233)).heap.size by simp) (.cells #[.int .i64 5,.int .u64 0,.int .u64 0,.int .u64 0,.int .u64 0,.slice (some ⟨wr.heap.size,0,none⟩) 1 1] 233);have hxB:=(Blk.new wr 233 #[.int .i64 rk,.int .u64 ra,.int .u64 rc,.int .u64 rd,.int .u64 rf,.slice rA rs.length rcp]).alloc (.cells #[.int .i64 5,.int .u64 0,.int .u64 0,.int .u64 0,.int .u64 0,.slice (some ⟨wr.heap.size,0,none⟩) 1 1] 233);have hsB:=Blk.new (wr.alloc (.cells #[.int .i64 rk,.int .u64 ra,.int .u64 rc,.int .u64 rd,.int .u64 rf,.slice rA rs.length rcp] 233)) 233 #[.int .i64 5,.int .u64 0,.int .u64 0,.int .u64 0,.int .u64 0,.slice (some ⟨wr.heap.size,0,none⟩) 1 1];rw[World.size_alloc] at hsB;have HXB:=qK hxB;have HSB:=qK hsB;have HPB:=qK (show PB _ b s j from(show Blk _ _ _ _ from HPr0.out).keep hbB);have HKB:=qK (HK.out.below hbB);have HZB:=qK (HZ.out.keep hbB);have HGB:=qK (HX.out.keep hbB);have HRB:=qK (HR.out.below hbB);have HW:=qK (show w1.heap.size≤wr.heap.size∧g3 < wr.heap.size from by have h1:=HG.out.2;have h2:=HX.out.lt;omega);clear hbA hbB hxB hsB HK HZ HX HR;go_upto_region 3 with fail
    clear k0 k1 k2 k3 k4 k5;generalize (wr.alloc (.cells #[.int .i64 rk,.int .u64 ra,.int .u64 rc,.int .u64 rd,.int .u64 rf,.slice rA rs.length rcp] 233)).alloc (.cells #[.int .i64 5,.int .u64 0,.int .u64 0,.int .u64 0,.int .u64 0,.slice (some ⟨wr.heap.size,0,none⟩) 1 1] 233)=wB at HXB HSB HPB HKB HZB HGB HRB ⊢;have HN:=zU1 b s j;have HD:=qK (fun h=>@zW8 s j h);have HL:=qK (@zP8 s j);have HH:=qK (zW7 s j);generalize zU0 s j=c at HN HD HL HH;go_wp2_with fail
    refine(HN wB HPB.out hs hj).mono ?_;rintro e wC ⟨rfl,hbC⟩;have HXC:=qK (HXB.out.keep hbC);have HSC:=qK (HSB.out.keep hbC);have HPC:=qK (show PB wC b s j from(show Blk _ _ _ _ from HPB.out).keep hbC);have HKC:=qK (HKB.out.below hbC);have HZC:=qK (HZB.out.keep hbC);have HGC:=qK (HGB.out.keep hbC);have HRC:=qK (HRB.out.below hbC);clear hbC HN HXB HSB HPB HKB HZB HGB HRB;obtain⟨k0,k1,k2,k3,k4,k5⟩:=regC HGC.out;obtain⟨f0,f1,f2,f3,f4,f5⟩:=regF HGC.out;obtain⟨l0,l1,l2,l3,l4,l5⟩:=regC HSC.out;have HHs:=qK (show htR (.mk 5 0 0 0 0 (some ⟨wr.heap.size,0,none⟩) 1 [(.mk rk ra rc rd rf rA rcp rs)])=hr+1 from by
     have h1:=HHr.out;rw[htR,htRs,htRs,h1];omega)
    have HST:=qK (show OkR (fun x=>w1.heap.size≤x∧x≠g3) wC (.mk 5 0 0 0 0 (some ⟨wr.heap.size,0,none⟩) 1 [(.mk rk ra rc rd rf rA rcp rs)]) from⟨.inr (.inr ⟨rfl,⟨rfl,rfl,rfl,rfl⟩,rfl⟩),by simp,HXC.out.sl zK4 _ rfl,(fun x hx=>by injection hx with hx;subst hx;have:=HW.out;exact⟨by show _≤wr.heap.size;omega,by show wr.heap.size≠g3;omega⟩),(fun h=>by cases h),HRC.out,trivial⟩);by_cases hc:c=42
    case' pos=>
     subst hc;have hjl:=HL.out (by decide);have hdr:=HD.out hjl;have hj1:j+1≤s.length:=by omega
     obtain⟨h6,hk6⟩:=res6 HGC.out (.int .i64 5) (.int .u64 0) (.int .u64 0) (.int .u64 0) (.int .u64 0) (.slice (some ⟨wr.heap.size,0,none⟩) 1 1);have HTE:=qK (show ∃ T:RT,Hid (Blk (wrR wC g3 (.int .i64 5) (.int .u64 0) (.int .u64 0) (.int .u64 0) (.int .u64 0) (.slice (some ⟨wr.heap.size,0,none⟩) 1 1)) g3 233 (encR T).toArray)∧Hid (OkR (fun x=>w1.heap.size≤x∧x≠g3) (wrR wC g3 (.int .i64 5) (.int .u64 0) (.int .u64 0) (.int .u64 0) (.int .u64 0) (.slice (some ⟨wr.heap.size,0,none⟩) 1 1)) T)∧Hid (zD4 (htR T) (s.drop (j+1))=S) from⟨(.mk 5 0 0 0 0 (some ⟨wr.heap.size,0,none⟩) 1 [(.mk rk ra rc rd rf rA rcp rs)]),qK h6,qK (HST.out.box hk6 (fun h=>h.2 rfl)),qK (by
      have h:=HSt.out;rw[hdr] at h;rw[←h,HHs.out];exact(if_pos rfl).symm)⟩)
     have HPE:=qK (show PB (wrR wC g3 (.int .i64 5) (.int .u64 0) (.int .u64 0) (.int .u64 0) (.int .u64 0) (.slice (some ⟨wr.heap.size,0,none⟩) 1 1)) b s j from hk6.blk HPC.out (by have:=HG.out;omega));have HKE:=qK (HKC.out.trans2 hk6 fun i hi e=>by have:=HG.out;omega);have HZE:=qK (hk6.blk HZC.out (by have:=HG.out;omega));unfold wrR at HTE HPE HKE HZE;clear h6 hk6 HST hdr;go_upto_region 11 with fail
     generalize ((((((wC.setCell ⟨g3,0,none⟩ (.int .i64 5)).setCell ⟨g3,1,none⟩ (.int .u64 0)).setCell ⟨g3,2,none⟩ (.int .u64 0)).setCell ⟨g3,3,none⟩ (.int .u64 0)).setCell ⟨g3,4,none⟩ (.int .u64 0)).setCell ⟨g3,5,none⟩ (.slice (some ⟨wr.heap.size,0,none⟩) 1 1))=wE at HTE HPE HKE HZE ⊢;clear HXC HSC HPC HKC HZC HGC HRC k0 k1 k2 k3 k4 k5 f0 f1 f2 f3 f4 f5 l0 l1 l2 l3 l4 l5
    case' neg=>
     have n42:¬ ((c.toNat:Int)=42):=fun h=>hc (by apply UInt8.toNat_inj.1;exact_mod_cast h);have H42:=qK hc;clear hc;by_cases hc:c=43
     case' pos=>
      subst hc;have hjl:=HL.out (by decide);have hdr:=HD.out hjl;have hj1:j+1≤s.length:=by omega
      have hbD:=(Below.refl wC.heap.size wC).alloc qJ (.cells #[.int .i64 rk,.int .u64 ra,.int .u64 rc,.int .u64 rd,.int .u64 rf,.slice rA rs.length rcp,.int .i64 5,.int .u64 0,.int .u64 0,.int .u64 0,.int .u64 0,.slice (some ⟨wr.heap.size,0,none⟩) 1 1] 233);have hxD:=Blk.new wC 233 #[.int .i64 rk,.int .u64 ra,.int .u64 rc,.int .u64 rd,.int .u64 rf,.slice rA rs.length rcp,.int .i64 5,.int .u64 0,.int .u64 0,.int .u64 0,.int .u64 0,.slice (some ⟨wr.heap.size,0,none⟩) 1 1];have hgD:=HGC.out.keep hbD;have HRD:=qK (HRC.out.below hbD);have HSD:=qK (HST.out.below hbD);obtain⟨h6,hk6⟩:=res6 hgD (.int .i64 3) (.int .u64 0) (.int .u64 0) (.int .u64 0) (.int .u64 0) (.slice (some ⟨wC.heap.size,0,none⟩) 2 2);have hOk:OkR (fun x=>w1.heap.size≤x∧x≠g3) (wC.alloc (.cells #[.int .i64 rk,.int .u64 ra,.int .u64 rc,.int .u64 rd,.int .u64 rf,.slice rA rs.length rcp,.int .i64 5,.int .u64 0,.int .u64 0,.int .u64 0,.int .u64 0,.slice (some ⟨wr.heap.size,0,none⟩) 1 1] 233)) (.mk 3 0 0 0 0 (some ⟨wC.heap.size,0,none⟩) 2 [(.mk rk ra rc rd rf rA rcp rs),(.mk 5 0 0 0 0 (some ⟨wr.heap.size,0,none⟩) 1 [(.mk rk ra rc rd rf rA rcp rs)])]):=⟨.inr (.inl ⟨.inl rfl,⟨rfl,rfl,rfl,rfl⟩,by simp⟩),by simp,hxD.sl zK4 _ rfl,(fun x hx=>by injection hx with hx;subst hx;have:=HW.out;have:=HXC.out.lt;exact⟨by show _≤wC.heap.size;omega,by show wC.heap.size≠g3;omega⟩),(fun h=>by cases h),HRD.out,HSD.out,trivial⟩;have hht:htR (.mk 3 0 0 0 0 (some ⟨wC.heap.size,0,none⟩) 2 [(.mk rk ra rc rd rf rA rcp rs),(.mk 5 0 0 0 0 (some ⟨wr.heap.size,0,none⟩) 1 [(.mk rk ra rc rd rf rA rcp rs)])])=hr+2:=by
       have h1:=HHr.out;have h2:=HPo.out;have h3:=HHs.out;rw[htR,htRs,htRs,htRs,h1,h3];omega
      have HTE:=qK (show ∃ T:RT,Hid (Blk (wrR (wC.alloc (.cells #[.int .i64 rk,.int .u64 ra,.int .u64 rc,.int .u64 rd,.int .u64 rf,.slice rA rs.length rcp,.int .i64 5,.int .u64 0,.int .u64 0,.int .u64 0,.int .u64 0,.slice (some ⟨wr.heap.size,0,none⟩) 1 1] 233)) g3 (.int .i64 3) (.int .u64 0) (.int .u64 0) (.int .u64 0) (.int .u64 0) (.slice (some ⟨wC.heap.size,0,none⟩) 2 2)) g3 233 (encR T).toArray)∧Hid (OkR (fun x=>w1.heap.size≤x∧x≠g3) (wrR (wC.alloc (.cells #[.int .i64 rk,.int .u64 ra,.int .u64 rc,.int .u64 rd,.int .u64 rf,.slice rA rs.length rcp,.int .i64 5,.int .u64 0,.int .u64 0,.int .u64 0,.int .u64 0,.slice (some ⟨wr.heap.size,0,none⟩) 1 1] 233)) g3 (.int .i64 3) (.int .u64 0) (.int .u64 0) (.int .u64 0) (.int .u64 0) (.slice (some ⟨wC.heap.size,0,none⟩) 2 2)) T)∧Hid (zD4 (htR T) (s.drop (j+1))=S) from⟨(.mk 3 0 0 0 0 (some ⟨wC.heap.size,0,none⟩) 2 [(.mk rk ra rc rd rf rA rcp rs),(.mk 5 0 0 0 0 (some ⟨wr.heap.size,0,none⟩) 1 [(.mk rk ra rc rd rf rA rcp rs)])]),qK h6,qK (hOk.box hk6 (fun h=>h.2 rfl)),qK (by
       have h:=HSt.out;rw[hdr] at h;rw[←h,hht];rfl)⟩)
      have HPE:=qK (show PB (wrR (wC.alloc (.cells #[.int .i64 rk,.int .u64 ra,.int .u64 rc,.int .u64 rd,.int .u64 rf,.slice rA rs.length rcp,.int .i64 5,.int .u64 0,.int .u64 0,.int .u64 0,.int .u64 0,.slice (some ⟨wr.heap.size,0,none⟩) 1 1] 233)) g3 (.int .i64 3) (.int .u64 0) (.int .u64 0) (.int .u64 0) (.int .u64 0) (.slice (some ⟨wC.heap.size,0,none⟩) 2 2)) b s j from hk6.blk ((show Blk _ _ _ _ from HPC.out).keep hbD) (by have:=HG.out;omega));have HKE:=qK ((HKC.out.below hbD).trans2 hk6 fun i hi e=>by have:=HG.out;omega);have HZE:=qK (hk6.blk (HZC.out.keep hbD) (by have:=HG.out;omega));obtain⟨m0,m1,m2,m3,m4,m5⟩:=regC hgD;obtain⟨n0,n1,n2,n3,n4,n5⟩:=regF hgD;unfold wrR at HTE HPE HKE HZE;clear h6 hk6 HST HSD HRD hdr hOk hht hbD hxD hgD;go_upto_region 11 with fail
      clear m0 m1 m2 m3 m4 m5 n0 n1 n2 n3 n4 n5;generalize (((((((wC.alloc (.cells #[.int .i64 rk,.int .u64 ra,.int .u64 rc,.int .u64 rd,.int .u64 rf,.slice rA rs.length rcp,.int .i64 5,.int .u64 0,.int .u64 0,.int .u64 0,.int .u64 0,.slice (some ⟨wr.heap.size,0,none⟩) 1 1] 233)).setCell ⟨g3,0,none⟩ (.int .i64 3)).setCell ⟨g3,1,none⟩ (.int .u64 0)).setCell ⟨g3,2,none⟩ (.int .u64 0)).setCell ⟨g3,3,none⟩ (.int .u64 0)).setCell ⟨g3,4,none⟩ (.int .u64 0)).setCell ⟨g3,5,none⟩ (.slice (some ⟨wC.heap.size,0,none⟩) 2 2))=wE at HTE HPE HKE HZE ⊢;clear HXC HSC HPC HKC HZC HGC HRC k0 k1 k2 k3 k4 k5 f0 f1 f2 f3 f4 f5 l0 l1 l2 l3 l4 l5
     case' neg=>
      have n43:¬ ((c.toNat:Int)=43):=fun h=>hc (by apply UInt8.toNat_inj.1;exact_mod_cast h);have H43:=qK hc;clear hc;by_cases hc:c=63
      case' pos=>
       subst hc;have hjl:=HL.out (by decide);have hdr:=HD.out hjl;have hj1:j+1≤s.length:=by omega
       have hbD:=(Below.refl wC.heap.size wC).alloc qJ (.cells #[.int .i64 rk,.int .u64 ra,.int .u64 rc,.int .u64 rd,.int .u64 rf,.slice rA rs.length rcp,.int .i64 1,.int .u64 0,.int .u64 0,.int .u64 0,.int .u64 0,.slice none 0 0] 233);have hxD:=Blk.new wC 233 #[.int .i64 rk,.int .u64 ra,.int .u64 rc,.int .u64 rd,.int .u64 rf,.slice rA rs.length rcp,.int .i64 1,.int .u64 0,.int .u64 0,.int .u64 0,.int .u64 0,.slice none 0 0];have hgD:=HGC.out.keep hbD;have HRD:=qK (HRC.out.below hbD);have HSD:=qK (HST.out.below hbD);obtain⟨h6,hk6⟩:=res6 hgD (.int .i64 4) (.int .u64 0) (.int .u64 0) (.int .u64 0) (.int .u64 0) (.slice (some ⟨wC.heap.size,0,none⟩) 2 2);have hOk:OkR (fun x=>w1.heap.size≤x∧x≠g3) (wC.alloc (.cells #[.int .i64 rk,.int .u64 ra,.int .u64 rc,.int .u64 rd,.int .u64 rf,.slice rA rs.length rcp,.int .i64 1,.int .u64 0,.int .u64 0,.int .u64 0,.int .u64 0,.slice none 0 0] 233)) (.mk 4 0 0 0 0 (some ⟨wC.heap.size,0,none⟩) 2 [(.mk rk ra rc rd rf rA rcp rs),(yY6 1 0 0 0 0)]):=⟨.inr (.inl ⟨.inr rfl,⟨rfl,rfl,rfl,rfl⟩,by simp⟩),by simp,hxD.sl zK4 _ rfl,(fun x hx=>by injection hx with hx;subst hx;have:=HW.out;have:=HXC.out.lt;exact⟨by show _≤wC.heap.size;omega,by show wC.heap.size≠g3;omega⟩),(fun h=>by cases h),HRD.out,(zM3 (.inr ⟨.inr rfl,rfl,rfl,rfl,rfl⟩)),trivial⟩;have hht:htR (.mk 4 0 0 0 0 (some ⟨wC.heap.size,0,none⟩) 2 [(.mk rk ra rc rd rf rA rcp rs),(yY6 1 0 0 0 0)])=hr+1:=by
        have h1:=HHr.out;have h2:=HPo.out;rw[htR,htRs,htRs,htRs,h1];show max hr (max 1 0)+1=_;omega
       have HTE:=qK (show ∃ T:RT,Hid (Blk (wrR (wC.alloc (.cells #[.int .i64 rk,.int .u64 ra,.int .u64 rc,.int .u64 rd,.int .u64 rf,.slice rA rs.length rcp,.int .i64 1,.int .u64 0,.int .u64 0,.int .u64 0,.int .u64 0,.slice none 0 0] 233)) g3 (.int .i64 4) (.int .u64 0) (.int .u64 0) (.int .u64 0) (.int .u64 0) (.slice (some ⟨wC.heap.size,0,none⟩) 2 2)) g3 233 (encR T).toArray)∧Hid (OkR (fun x=>w1.heap.size≤x∧x≠g3) (wrR (wC.alloc (.cells #[.int .i64 rk,.int .u64 ra,.int .u64 rc,.int .u64 rd,.int .u64 rf,.slice rA rs.length rcp,.int .i64 1,.int .u64 0,.int .u64 0,.int .u64 0,.int .u64 0,.slice none 0 0] 233)) g3 (.int .i64 4) (.int .u64 0) (.int .u64 0) (.int .u64 0) (.int .u64 0) (.slice (some ⟨wC.heap.size,0,none⟩) 2 2)) T)∧Hid (zD4 (htR T) (s.drop (j+1))=S) from⟨(.mk 4 0 0 0 0 (some ⟨wC.heap.size,0,none⟩) 2 [(.mk rk ra rc rd rf rA rcp rs),(yY6 1 0 0 0 0)]),qK h6,qK (hOk.box hk6 (fun h=>h.2 rfl)),qK (by
        have h:=HSt.out;rw[hdr] at h;rw[←h,hht];rfl)⟩)
       have HPE:=qK (show PB (wrR (wC.alloc (.cells #[.int .i64 rk,.int .u64 ra,.int .u64 rc,.int .u64 rd,.int .u64 rf,.slice rA rs.length rcp,.int .i64 1,.int .u64 0,.int .u64 0,.int .u64 0,.int .u64 0,.slice none 0 0] 233)) g3 (.int .i64 4) (.int .u64 0) (.int .u64 0) (.int .u64 0) (.int .u64 0) (.slice (some ⟨wC.heap.size,0,none⟩) 2 2)) b s j from hk6.blk ((show Blk _ _ _ _ from HPC.out).keep hbD) (by have:=HG.out;omega));have HKE:=qK ((HKC.out.below hbD).trans2 hk6 fun i hi e=>by have:=HG.out;omega);have HZE:=qK (hk6.blk (HZC.out.keep hbD) (by have:=HG.out;omega));obtain⟨m0,m1,m2,m3,m4,m5⟩:=regC hgD;obtain⟨n0,n1,n2,n3,n4,n5⟩:=regF hgD;unfold wrR at HTE HPE HKE HZE;clear h6 hk6 HST HSD HRD hdr hOk hht hbD hxD hgD;go_upto_region 11 with fail
       clear m0 m1 m2 m3 m4 m5 n0 n1 n2 n3 n4 n5;generalize (((((((wC.alloc (.cells #[.int .i64 rk,.int .u64 ra,.int .u64 rc,.int .u64 rd,.int .u64 rf,.slice rA rs.length rcp,.int .i64 1,.int .u64 0,.int .u64 0,.int .u64 0,.int .u64 0,.slice none 0 0] 233)).setCell ⟨g3,0,none⟩ (.int .i64 4)).setCell ⟨g3,1,none⟩ (.int .u64 0)).setCell ⟨g3,2,none⟩ (.int .u64 0)).setCell ⟨g3,3,none⟩ (.int .u64 0)).setCell ⟨g3,4,none⟩ (.int .u64 0)).setCell ⟨g3,5,none⟩ (.slice (some ⟨wC.heap.size,0,none⟩) 2 2))=wE at HTE HPE HKE HZE ⊢;clear HXC HSC HPC HKC HZC HGC HRC k0 k1 k2 k3 k4 k5 f0 f1 f2 f3 f4 f5 l0 l1 l2 l3 l4 l5
      case' neg=>
       have n63:¬ ((c.toNat:Int)=63):=fun h=>hc (by apply UInt8.toNat_inj.1;exact_mod_cast h);have HSe:=qK (show (hr,s.drop j)=S from by
        rw[←HSt.out];by_cases hjl:j < s.length
        ·rw[HD.out hjl];show _=if c=42 then _ else if c=43 then _ else if c=63 then _ else _;rw[if_neg H42.out,if_neg H43.out,if_neg hc]
        ·rw[List.drop_eq_nil_of_le qG];rfl)
       go_upto_region 4 with fail
       obtain⟨x0,x1,x2,x3,x4,x5⟩:=regC HZC.out;obtain⟨y0,y1,y2,y3,y4,y5⟩:=regF HZC.out;obtain⟨h6,hk6⟩:=res6 HZC.out (.int .i64 rk) (.int .u64 ra) (.int .u64 rc) (.int .u64 rd) (.int .u64 rf) (.slice rA rs.length rcp);have H6:=qK h6;have HF:=qK (zS0 (r:=(.mk rk ra rc rd rf rA rcp rs)) (HKC.out.trans2 hk6 fun i hi e=>by omega) (show PB _ b s j from hk6.blk HPC.out qG) hj ((zV4 (fun b _ h=>by have:=HG.out;exact Nat.le_trans (Nat.le_of_lt this.1) h.1)).1 _ (HRC.out.box hk6 (by have:=HG.out;omega))) HHr.out);clear h6 hk6 HST hc;go_wp2;obtain⟨z0,z1,z2,z3,z4,z5⟩:=regC H6.out;unfold wrR at z0 z1 z2 z3 z4 z5;refine bodyPost_ret (v:=.agg #[.int .i64 rk,.int .u64 ra,.int .u64 rc,.int .u64 rd,.int .u64 rf,.slice rA rs.length rcp]) ?_ rfl ⟨_,HSe.out.symm▸HPr.out,HF.out⟩;simp[results,Tryz.results213,go_sem,z0,z1,z2,z3,z4,z5]
    all_goals
     obtain⟨T,HGE,HRE,HStE⟩:=HTE.out;obtain⟨j1,hjj⟩:∃ j1,j+1=j1:=⟨_,rfl⟩;rw[hjj] at HStE;have p1:IntKind.i64.wrap ((j:Int)+1)=(j1:Int):=by simp[IntKind.wrap,IntKind.bits,IntKind.signed];omega
     have HJ:=qK (show j1≤s.length∧j < j1 from by omega);have hP:=HPE.out.at_ j1;have HPf:=qK hP.1;have HKf:=qK (HKE.out.trans hP.2);have HZf:=qK (hP.2.blk HZE.out (by have:=HG.out;omega));have HGf:=qK (hP.2.blk HGE.out (by have:=HG.out;omega));have HRf:=qK (HRE.out.box hP.2 (by have:=HG.out;omega));obtain⟨x0,x1,f1⟩:=HPE.out.cells;clear hP hjj HTE HGE HRE HKE HZE hj1 hj;go_wp2;go_roundw
     case rel=>exact⟨j1,T,HJ.out.1,HPf,HKf,HZf,HGf,HRf,HStE⟩
     case measure=>
      show s.length-atV b _ < s.length-atV b _;rw[HPf.out.atV,HPr0.out.atV];have:=HJ.out;omega
end Go.Proofs.YtdgehhgjgifikaaGreatDoor
