/- What the claim needs of:KN KO. -/
import Derived.Test.YtdgehhgjgifikaaGreatDoorK39
namespace Go.Proofs.YtdgehhgjgifikaaGreatDoor
open Go.RowKit
structure CatS (w:World)(b i:Nat)(s:Tx)(n j g cap:Nat)(L:List RT)(wr:World):Prop where
 hn:n+i≤j
 n1:1≤n
 hj:j≤s.length
 len:L.length=n
 hP:PB wr b s j
 z:Blk wr (w.heap.size+1) 233 #[.int .i64 0,.int .u64 0,.int .u64 0,.int .u64 0,.int .u64 0,.slice none 0 0]
 gp:Blk wr w.heap.size 248 #[.pointer (some ⟨b,0,none⟩)]
 gl:Blk wr (w.heap.size+2) 231 #[.slice (some ⟨g,0,none⟩) n cap]
 row:wr.ownsRow (w.heap.size+3) 233 6 (.slice (some ⟨g,0,none⟩) n cap) n (L.flatMap encR)
 hg:w.heap.size+3≤g
 ok:OkRs (fun x=>w.heap.size+3≤x∧x≠g) wr L
 kp:Kp (· = b) w wr
 goes:∀ o,Pr 3 (L.map htR) (s.drop j) o→Pr 2 [] (s.drop i) o
theorem CatS.below {w wr wf:World}{b i n j g cap:Nat}{s:Tx}{L:List RT}(h:CatS w b i s n j g cap L wr)(hb:Below wr.heap.size wr wf):CatS w b i s n j g cap L wf:=
 ⟨h.hn,h.n1,h.hj,h.len,(show Blk _ _ _ _ from h.hP).keep hb,h.z.keep hb,h.gp.keep hb,h.gl.keep hb,yV6 h.row (Kp.ofBelow hb fun _=>False) (fun _ _ h=>h),h.hg,(zR3 (Kp.ofBelow hb fun _=>False) (fun _ _ h=>h)).2 _ h.ok,h.kp.below hb,h.goes⟩
theorem yE5 {w w0 w':World}{b i n j j' g' cap':Nat}{s:Tx}{v:Value}{L:List RT}{r:RT}(hbw:b < w.heap.size)(hni:n+i≤j)(hjj:j < j')(hj':j'≤s.length)(hlen:L.length=n)(hkw:Kp (· = b) w w0)(hz:Blk w0 (w.heap.size+1) 233 #[.int .i64 0,.int .u64 0,.int .u64 0,.int .u64 0,.int .u64 0,.slice none 0 0])(hgp:Blk w0 w.heap.size 248 #[.pointer (some ⟨b,0,none⟩)])(hv:∀ x,v.ownBlock=some x→w.heap.size+3≤x)
  (hk:Kp (fun x=>x=b∨x=w.heap.size+2∨v.ownBlock=some x) w0 w')(hP:PB w' b s j')(hg:w.heap.size+3≤g')(hrow:w'.ownsRow (w.heap.size+3) 233 6 (.slice (some ⟨g',0,none⟩) (n+1) cap') (n+1) ((L++ [r]).flatMap encR))(hgl:Blk w' (w.heap.size+2) 231 #[.slice (some ⟨g',0,none⟩) (n+1) cap'])(hok:OkRs (fun x=>w.heap.size+3≤x∧x≠g') w' (L++ [r]))
  (hgo:∀ o,Pr 3 ((L++ [r]).map htR) (s.drop j') o→Pr 2 [] (s.drop i) o):CatS w b i s (n+1) j' g' cap' (L++ [r]) w':=by
 have hnz:∀ k,k≤1→¬ (w.heap.size+k=b∨w.heap.size+k=w.heap.size+2∨v.ownBlock=some (w.heap.size+k)):=fun k hk h=>by
  rcases h with h | h | h
  ·omega
  ·omega
  ·have:=hv _ h;omega
 exact⟨by omega,by omega,hj',by simp[hlen],hP,hk.blk hz (hnz 1 qG),hk.blk hgp (hnz 0 qG),hgl,hrow,hg,hok,hkw.trans2 hk fun x hx h=>by
  rcases h with h | h | h
  ·exact h
  ·omega
  ·have:=hv _ h;omega,hgo⟩
theorem CatS.done {w wr w' w'':World}{b i n j g cap c2:Nat}{s:Tx}{L:List RT}(h:CatS w b i s n j g cap L wr)(hbw:b < w.heap.size)(hs:s.length≤1000)(hst:s.drop j=[]∨(s.drop j).head? = some 124∨(s.drop j).head? = some 41)(hb:Below wr.heap.size wr w')(hk:Kp (· = w.heap.size+1) w' w'') :
  ∃ o,Pr 2 [] (s.drop i) o∧RetT b s o w (.returned (.agg (encR (yY5 3 (some ⟨g,0,none⟩) c2 L)).toArray)) w'':=by
 have hx:=h.below hb;refine⟨_,h.goes _ (.catS hst),hx.kp.trans2 hk fun x hx e=>by omega,j,h.hj,hk.blk hx.hP qG,rfl,_,?_,yF8 _ _ _ _,rfl⟩;have h1:OkR (fun x=>w.heap.size+3≤x) w' (yY5 3 (some ⟨g,0,none⟩) c2 L):=yF9 (.inl rfl) (fun e=>by have h1:=h.n1;have h2:=h.len;rw[e] at h2;simp at h2;omega) (by have h1:=h.hn;have h2:=h.hj;have h3:=h.len;omega) (yE4 hx.row).2 (fun x hx=>by injection hx with hx;subst hx;exact h.hg) (zS8.2 fun r hr=>(zV4 fun x _ hx=>hx.1).1 _ (zS8.1 hx.ok r hr));exact(zV4 fun x _ hx=>Nat.le_trans (Nat.le_add_right _ 3) hx).1 _ ((zR3 hk fun x hx e=>by omega).1 _ h1)
set_option maxRecDepth 100000 in
theorem zP9 {Q:Exit→Act→World→Prop}{W:World}{fs:List Fact}{aa ab ac ad ae af ag ah ai aj ak al am an ao ap aq ar au av aw ax ay az aA aB aC aD aE aF aG aH aI aJ aK aL aM aN aO aP aQ aR aS aT aU aV aW aX aY aZ a0 a1:Value}(h:Q .normal (Act.mk #[aa,ab,ac,ad,ae,af,ag,ah,aI,aJ,aK,aL,aM,aN,aO,aP,aQ,aR,aS,aT,aU,aV,aW,aX,aY,aZ,a0,a1,aE,aF,aG,aH] []) W):zY0 W (fun A=>Q .normal A W) [] fs (Act.put (Act.put (Act.put (Act.put (Act.put (Act.put (Act.put (Act.put (Act.put (Act.put (Act.put (Act.put (Act.put (Act.put (Act.put (Act.put (Act.put (Act.put (Act.put (Act.put (Act.mk #[aa,ab,ac,ad,ae,af,ag,ah,ai,aj,ak,al,am,an,ao,ap,aq,ar,au,av,aw,ax,ay,az,aA,aB,aC,aD,aE,aF,aG,aH] []) (some 8) aI) (some 9) aJ) (some 10) aK) (some 11) aL) (some 12) aM) (some 13) aN) (some 14) aO) (some 15) aP) (some 16) aQ) (some 17) aR) (some 18) aS) (some 19) aT) (some 20) aU) (some 21) aV) (some 22) aW) (some 23) aX) (some 24) aY) (some 25) aZ) (some 26) a0) (some 27) a1):=
 zL1 qF h
set_option maxRecDepth 100000 in
set_option maxHeartbeats 4000000 in
theorem yE6 (b:Nat)(s:Tx)(i:Nat)(hs:s.length≤1000)(hil:i≤s.length)(hA:∀ j,i≤j→j≤s.length→TOk 213 4 b s j):TOk 198 2 b s i:=by
 intro w hB;have hbl:b < w.heap.size:=(show Blk _ _ _ _ from hB).lt;have hb1:=(((Below.refl w.heap.size w).alloc qJ (.cells #[.pointer (some ⟨b,0,none⟩)] 248)).alloc (by simp) (.cells #[.int .i64 0,.int .u64 0,.int .u64 0,.int .u64 0,.int .u64 0,.slice none 0 0] 233)).alloc (by simp;omega) (.cells #[.slice none 0 0] 231);have HP1:=qK (show PB _ b s i from(show Blk _ _ _ _ from hB).keep hb1);have HK1:=qK (Kp.ofBelow hb1 (· = b));have HGp1:=qK (((Blk.new w 248 #[.pointer (some ⟨b,0,none⟩)]).alloc (.cells #[.int .i64 0,.int .u64 0,.int .u64 0,.int .u64 0,.int .u64 0,.slice none 0 0] 233)).alloc (.cells #[.slice none 0 0] 231));have hz:=(Blk.new (w.alloc (.cells #[.pointer (some ⟨b,0,none⟩)] 248)) 233 #[.int .i64 0,.int .u64 0,.int .u64 0,.int .u64 0,.int .u64 0,.slice none 0 0]).alloc (.cells #[.slice none 0 0] 231);have hl:=Blk.new ((w.alloc (.cells #[.pointer (some ⟨b,0,none⟩)] 248)).alloc (.cells #[.int .i64 0,.int .u64 0,.int .u64 0,.int .u64 0,.int .u64 0,.slice none 0 0] 233)) 231 #[.slice none 0 0];rw[World.size_alloc] at hz;rw[World.size_alloc,World.size_alloc] at hl;have HZ1:=qK hz;have HGl1:=qK hl;have HA:=qK hA;have HS:=qK hs;clear hB hb1 hA hz hl hs;go_enter Tryz.func198,Tryz.ntmps198
 go_upto_region 3 with fail
 rw[show w.heap.size+1+1=w.heap.size+2 from rfl] at HGl1 ⊢;have HZz:=qK (show (((w.alloc (.cells #[.pointer (some ⟨b,0,none⟩)] 248)).alloc (.cells #[.int .i64 0,.int .u64 0,.int .u64 0,.int .u64 0,.int .u64 0,.slice none 0 0] 233)).alloc (.cells #[.slice none 0 0] 231)).heap.size=w.heap.size+3 from by simp);generalize ((w.alloc (.cells #[.pointer (some ⟨b,0,none⟩)] 248)).alloc (.cells #[.int .i64 0,.int .u64 0,.int .u64 0,.int .u64 0,.int .u64 0,.slice none 0 0] 233)).alloc (.cells #[.slice none 0 0] 231)=w1 at HP1 HK1 HGp1 HZ1 HGl1 HZz ⊢;go_wp2_with fail
 refine(xR0 b (w.heap.size+2) w.heap.size (w.heap.size+3) i 0 s (.slice none 0 0) [] w1 hil (HA.out i qJ hil) HP1.out HGp1.out HGl1.out (World.ownsRow_nil _ _ _ _) trivial qG rfl ⟨by omega,by omega,by omega,by omega,by omega,by omega,by have:=HZz.out;omega⟩).mono ?_;rintro e w2 ⟨o,j,hPr,hj,hP2,hk2,h⟩;cases o with
 | none=>
   obtain⟨k,rfl⟩:=h;exact⟨rfl,none,.cat0n hPr,zW3 (HK1.out.trans2 hk2 fun x hx h=>by
    rcases h with h | h | h
    ·exact h
    ·omega
    ·cases h) hP2 hj⟩
 | some q=>
   obtain⟨ht,t⟩:=q;obtain⟨rfl,r,g,cap,rfl,rfl,hg,hrow,hgl,hok⟩:=h;have S1:=yE5 (n:=0) (L:=[]) hbl qG (hPr.gone (by decide) (by decide) hil hj) hj rfl HK1.out HZ1.out HGp1.out (fun x h=>by cases h) hk2 hP2 hg hrow hgl hok (fun o h=>.cat0 hPr h);clear hPr hj hP2 hk2 hg hrow hgl hok HP1 HK1 HGp1 HZ1 HGl1 HZz;go_wp2_with fail
   go_loopw [] (fun wq=>∃ (n j g cap:Nat) (L:List RT),CatS w b i s n j g cap L wq) (fun wq=>s.length-atV b wq)
   case atStart=>exact⟨_,_,_,_,_,S1⟩
   case round=>
    clear S1 r g cap j;obtain⟨n,j,g,cap,L,SR⟩:=hrel;have hj:=SR.hj;have HPk:=qK SR.hP;have HGp:=qK SR.gp;have HN:=qK (fun W (h:PB W b s j)=>zU1 b s j W h HS.out hj);have HD:=qK (fun h=>@zW8 s j h);have HL:=qK (@zP8 s j);have HH:=qK (zW7 s j);have HSr:=qK SR;clear SR;generalize zU0 s j=c at HN HD HL HH;go_upto_region 4 with fail
    by_cases hjl:j < s.length
    case' neg=>
     have hge:¬ ((j:Int) < (s.length:Int)):=by omega
     have HStp:=qK (show s.drop j=[]∨(s.drop j).head? = some 124∨(s.drop j).head? = some 41 from .inl (List.drop_eq_nil_of_le qG));apply zZ3 qF [isv _,isv _,isv _,isv _,isv _,isv _,isv _,isv _,isv _,isv _,isv _,isv _,isv _,isv _,isv _,isv _,isv _,isv _,isv _,isv _] wr.heap.size wr qJ qH.drew qF qF qF (qC (qC (qC (qC (qC (qC (qC (qC (qC (qC (qC (qC (qC (qC (qC (qC (qC (qC (qC (qC trivial)))))))))))))))))))) ?steps (by rfl) ?fin;case steps=>exact qA (kN 1) (qA (qQ 0 8) (qA (qQ 1 9) (qA (kI 2 10) (qA (kN 1) (qA (qQ 4 12) (qA (qQ 5 13) (qA (kI 6 14) (qA (qQ 7 15) (qA (qV 3 11 8 16) (qA (qQ 9 17) (qA (kB 1 10 18) (qA (qX 10 18 11 19) (qA (qX 10 18 12 20) (qA (qV 10 18 13 21) (qA (qQ 14 22) (qA (kB 1 15 23) (qA (qX 15 23 16 24) (qA (qX 15 23 17 25) (qA (qV 15 23 18 26) trivial)))))))))))))))))))
     case fin=>exact yY
    case' pos=>
     have hlt:(j:Int) < (s.length:Int):=by omega
     have HDr:=qK (HD.out hjl);by_cases hc:c=124
     case' pos=>
      subst hc;have HStp:=qK (show s.drop j=[]∨(s.drop j).head? = some 124∨(s.drop j).head? = some 41 from .inr (.inl (by rw[HDr.out];rfl)));apply zZ3 qF [isv _,isv _,isv _,isv _,isv _,isv _,isv _,isv _,isv _,isv _,isv _,isv _,isv _,isv _,isv _,isv _,isv _,isv _,isv _,isv _] wr.heap.size wr qJ qH.drew qF qF qF (qC (qC (qC (qC (qC (qC (qC (qC (qC (qC (qC (qC (qC (qC (qC (qC (qC (qC (qC (qC trivial)))))))))))))))))))) ?steps (by rfl) ?fin;case steps=>exact qA (kN 1) (qA (qQ 0 8) (qA (qQ 1 9) (qA (kI 2 10) (qA (kN 1) (qA (qQ 4 12) (qA (qQ 5 13) (qA (kI 6 14) (qA (qQ 7 15) (qA (qV 3 11 8 16) (qA (qQ 9 17) (qA (kL 1 10 18) (qA (kK 10 18 11 19) (qA (qP 10 18 12 20) (qA (qV 10 18 13 21) (qA (qQ 14 22) (qA (kB 1 15 23) (qA (qX 15 23 16 24) (qA (qX 15 23 17 25) (qA (qV 15 23 18 26) trivial)))))))))))))))))))
      case fin=>exact yY
     case' neg=>
      have n124:¬ ((c.toNat:Int)=124):=fun h=>hc (by apply UInt8.toNat_inj.1;exact_mod_cast h);have Hn124:=qK hc;clear hc;by_cases hc:c=41
      case' pos=>
       subst hc;have HStp:=qK (show s.drop j=[]∨(s.drop j).head? = some 124∨(s.drop j).head? = some 41 from .inr (.inr (by rw[HDr.out];rfl)));apply zZ3 qF [isv _,isv _,isv _,isv _,isv _,isv _,isv _,isv _,isv _,isv _,isv _,isv _,isv _,isv _,isv _,isv _,isv _,isv _,isv _,isv _] wr.heap.size wr qJ qH.drew qF qF qF (qC (qC (qC (qC (qC (qC (qC (qC (qC (qC (qC (qC (qC (qC (qC (qC (qC (qC (qC (qC trivial)))))))))))))))))))) ?steps (by rfl) ?fin;case steps=>exact qA (kN 1) (qA (qQ 0 8) (qA (qQ 1 9) (qA (kI 2 10) (qA (kN 1) (qA (qQ 4 12) (qA (qQ 5 13) (qA (kI 6 14) (qA (qQ 7 15) (qA (qV 3 11 8 16) (qA (qQ 9 17) (qA (kL 1 10 18) (qA (kK 10 18 11 19) (qA (qP 10 18 12 20) (qA (qV 10 18 13 21) (qA (qQ 14 22) (qA (kL 1 15 23) (qA (kK 15 23 16 24) (qA (qP 15 23 17 25) (qA (qV 15 23 18 26) trivial)))))))))))))))))))
       case fin=>exact yY
      case' neg=>
       have n41:¬ ((c.toNat:Int)=41):=fun h=>hc (by apply UInt8.toNat_inj.1;exact_mod_cast h);have Hn41:=qK hc;clear hc;apply zZ3 qF [isv _,isv _,isv _,isv _,isv _,isv _,isv _,isv _,isv _,isv _,isv _,isv _,isv _,(isv (.bool true)),isv _,isv _,isv _,isv _,(isv (.bool true)),isv _] wr.heap.size wr qJ qH.drew qF qF qF (qC (qC (qC (qC (qC (qC (qC (qC (qC (qC (qC (qC (qC (qC (qC (qC (qC (qC (qC (qC trivial)))))))))))))))))))) ?steps (by rfl) ?fin;case steps=>
        refine qA (kN 1) (qA (qQ 0 8) (qA (qQ 1 9) (qA (kI 2 10) (qA (kN 1) (qA (qQ 4 12) (qA (qQ 5 13) (qA (kI 6 14) (qA (qQ 7 15) (qA (qV 3 11 8 16) (qA (qQ 9 17) (qA (kL 1 10 18) (qA (kK 10 18 11 19) (qA ?_ ?_)))))))))))))
        ·intro AA W KK QQ hB hs hd hl hk;obtain⟨_,sl18,rfl⟩:=hd 10 18 qF rfl;obtain⟨_,sl20,rfl⟩:=hd 12 20 qF rfl;clear hs hd hl;refine⟨_,_,rfl,sl18,?_⟩;change Oper.wp _ _ _ _ _ _;go_simp;exact hk _ _ (congrArg Value.bool (bne_iff_ne.2 n124)) qH
        refine qA (qV 10 18 13 21) (qA (qQ 14 22) (qA (kL 1 15 23) (qA (kK 15 23 16 24) (qA ?_ ?_))))
        ·intro AA W KK QQ hB hs hd hl hk;obtain⟨_,sl23,rfl⟩:=hd 15 23 qF rfl;obtain⟨_,sl25,rfl⟩:=hd 17 25 qF rfl;clear hs hd hl;refine⟨_,_,rfl,sl23,?_⟩;change Oper.wp _ _ _ _ _ _;go_simp;exact hk _ _ (congrArg Value.bool (bne_iff_ne.2 n41)) qH
        exact qA (qV 15 23 18 26) trivial
       case fin=>
        intro wf hB
        iterate 13 refine qN ?_
        refine zZ4 21 rfl ?_;rintro _ rfl
        iterate 4 refine qN ?_
        refine zZ4 26 rfl ?_;rintro _ rfl;refine qN ?_;refine zP9 ?_;have SF:=HSr.out.below hB;have hn1:=SF.hn;have hij:i≤j:=by have:=SF.n1;omega
        have hhd:∀ x:UInt8,c≠x→(s.drop j).head?≠some x:=fun x hx h=>by
         rw[HDr.out] at h;injection h with h
         exact hx h
        have hnn:s.drop j≠[]:=fun h=>by rw[HDr.out] at h;cases h
        go_wp2_with fail
        refine(xR0 b (w.heap.size+2) w.heap.size (w.heap.size+3) j n s (.slice (some ⟨g,0,none⟩) n cap) L wf hj (HA.out j hij hj) SF.hP SF.gp SF.gl SF.row ((zV4 fun x _ hx=>⟨hx.1,fun e=>hx.2 (by injection e with e;exact e.symm)⟩).2 _ SF.ok) (by have:=HS.out;omega) SF.len ⟨by omega,by omega,by omega,by omega,by omega,by omega,by have:=SF.gl.lt;omega⟩).mono ?_;rintro e w2 ⟨o,j2,hPr,hj2,hP2,hk2,h⟩;cases o with
        | none=>
          obtain⟨k,rfl⟩:=h;refine⟨rfl,none,SF.goes _ (.catN hnn (hhd _ Hn124.out) (hhd _ Hn41.out) hPr),zW3 (SF.kp.trans2 hk2 fun x hx h=>?_) hP2 hj2⟩;rcases h with h | h | h
          ·exact h
          ·omega
          ·have:=SF.hg;injection (show some g=some x from h) with h
           omega
        | some q=>
          obtain⟨ht,t⟩:=q;obtain⟨rfl,r,g2,cap2,rfl,rfl,hg2,hrow,hgl,hok⟩:=h;have hjj:=hPr.gone (by decide) (by decide) hj hj2;have S2:=yE5 hbl hn1 hjj hj2 SF.len SF.kp SF.z SF.gp (fun x h=>by
           injection (show some g=some x from h) with h
           have:=SF.hg;omega) hk2 hP2 hg2 hrow hgl hok (fun o h=>SF.goes _ (.catL hnn (hhd _ Hn124.out) (hhd _ Hn41.out) hPr (by rw[List.map_append] at h;exact h)))
          clear hPr hP2 hk2 hg2 hrow hgl hok SF hhd hnn;go_wp2_with fail
          go_roundw
          case rel=>exact⟨_,_,_,_,_,S2⟩
          case measure=>
           show s.length-atV b _ < s.length-atV b _;rw[S2.hP.atV,HSr.out.hP.atV];omega
theorem row_one {W:World}{g base:Nat}{r:RT}(h:Blk W g 233 (encR r).toArray)(hb:base≤g):W.ownsRow base 233 6 (.slice (some ⟨g,0,none⟩) 1 1) 1 ([r].flatMap encR):=by
 have hl:=zK4 r;refine⟨by simp[hl],.inr ⟨g,1,_,rfl,hb,h,Nat.le_refl _,by decide,by simp[hl],?_⟩⟩;rw[List.toList_toArray,List.take_of_length_le qG];simp
theorem row_appR {W:World}{base n g:Nat}{v:Value}{L:List RT}{r:RT}(hrow:W.ownsRow base 233 6 v n (L.flatMap encR))(hz:Blk W g 233 (encR r).toArray)(hn:n≤1000)(hbs:base≤W.heap.size) :
  ∃ g7 c7 W7,(Builtin.append_ #[231,231] 231 #[v,.slice (some ⟨g,0,none⟩) 1 1]).run Tryz.prog W=.ok (.slice (some ⟨g7,0,none⟩) (n+1) c7) W7∧W7.ownsRow base 233 6 (.slice (some ⟨g7,0,none⟩) (n+1) c7) (n+1) ((L++ [r]).flatMap encR)∧
    W.grownBy W7 v.ownBlock∧base≤g7∧(v.ownBlock=some g7∨g7=W.heap.size):=by
 obtain⟨ht,hsz,i,z,hi,hzz,hs,hby,hzs⟩:=elReg;obtain⟨v',w',hr,h2,h3,_,h5⟩:=run_append_own_at (P:=Tryz.prog) (w:=W) base 231 231 233 i z 6 64 ht hi hzz hs hby hzs hsz v n (L.flatMap encR) hrow ⟨g,0,none⟩ 1 1 (encR r) (zK4 r) (fun j u hu=>by
  have e:(⟨g,0,none⟩:Addr).add j=⟨g,j,none⟩:=by cases j <;> simp[Addr.add]
  rw[e,hz.cell j,List.getElem?_toArray];exact hu) (encR_one r) (by simp only[maxLen];omega) qG hbs
 rw[show (L++ [r]).flatMap encR=L.flatMap encR++encR r from by simp];rcases h2.2 with ⟨_,h6⟩ | ⟨g7,c7,cur,rfl,hb7,h7⟩
 ·omega
 ·exact xL
structure AltS (w:World)(b i:Nat)(s:Tx)(j g cap:Nat)(L:List RT)(wr:World):Prop where
 hn:L.length+i≤j
 n1:L≠[]
 hj:j≤s.length
 hP:PB wr b s j
 z:Blk wr w.heap.size 233 #[.int .i64 0,.int .u64 0,.int .u64 0,.int .u64 0,.int .u64 0,.slice none 0 0]
 row:wr.ownsRow (w.heap.size+1) 233 6 (.slice (some ⟨g,0,none⟩) L.length cap) L.length (L.flatMap encR)
 hg:w.heap.size+1≤g
 ok:OkRs (fun x=>w.heap.size+1≤x∧x≠g) wr L
 kp:Kp (· = b) w wr
 goes:∀ o,Pr 1 (L.map htR) (s.drop j) o→Pr 0 [] (s.drop i) o
theorem AltS.below {w wr wf:World}{b i j g cap:Nat}{s:Tx}{L:List RT}(h:AltS w b i s j g cap L wr)(hb:Below wr.heap.size wr wf):AltS w b i s j g cap L wf:=
 ⟨h.hn,h.n1,h.hj,(show Blk _ _ _ _ from h.hP).keep hb,h.z.keep hb,yV6 h.row (Kp.ofBelow hb fun _=>False) (fun _ _ h=>h),h.hg,(zR3 (Kp.ofBelow hb fun _=>False) (fun _ _ h=>h)).2 _ h.ok,h.kp.below hb,h.goes⟩
theorem AltS.done {w wr w' w'':World}{b i j g cap c2:Nat}{s:Tx}{L:List RT}(h:AltS w b i s j g cap L wr)(hbw:b < w.heap.size)(hs:s.length≤1000)(hst:(s.drop j).head?≠some 124)(hb:Below wr.heap.size wr w')(hk:Kp (· = w.heap.size) w' w'') :
  ∃ o,Pr 0 [] (s.drop i) o∧RetT b s o w (.returned (.agg (encR (yY5 4 (some ⟨g,0,none⟩) c2 L)).toArray)) w'':=by
 have hx:=h.below hb;refine⟨_,h.goes _ (.altS hst),hx.kp.trans2 hk fun x hx e=>by omega,j,h.hj,hk.blk hx.hP qG,rfl,_,?_,yF8 _ _ _ _,rfl⟩;have h1:OkR (fun x=>w.heap.size+1≤x) w' (yY5 4 (some ⟨g,0,none⟩) c2 L):=yF9 (.inr rfl) h.n1 (by have h1:=h.hn;have h2:=h.hj;omega) (yE4 hx.row).2 (fun x hx=>by injection hx with hx;subst hx;exact h.hg) (zS8.2 fun r hr=>(zV4 fun x _ hx=>hx.1).1 _ (zS8.1 hx.ok r hr));exact(zV4 fun x _ hx=>Nat.le_trans (Nat.le_add_right _ 1) hx).1 _ ((zR3 hk fun x hx e=>by omega).1 _ h1)
theorem altS_one {w w1 w2:World}{b i j:Nat}{s:Tx}{r:RT}(hbw:b < w.heap.size)(hz1:Blk w1 w.heap.size 233 #[.int .i64 0,.int .u64 0,.int .u64 0,.int .u64 0,.int .u64 0,.slice none 0 0])(hk1:Kp (· = b) w w1)(hk2:Kp (· = b) w1 w2)(hij:i < j)(hj:j≤s.length)(hP:PB w2 b s j)(hr:OkR (fun x=>w1.heap.size≤x) w2 r)(hPr:Pr 2 [] (s.drop i) (some (htR r,s.drop j))) :
  AltS w b i s j w2.heap.size 1 [r] (w2.alloc (.cells (encR r).toArray 233)):=by
 have hb:=(Below.refl w2.heap.size w2).alloc qJ (.cells (encR r).toArray 233);have h1:=hz1.lt;have h2:=hk2.size;exact⟨by simp;omega,by simp,hj,(show Blk _ _ _ _ from hP).keep hb,(hk2.blk hz1 qG).keep hb,row_one (Blk.new w2 _ _) qG,by omega,⟨((zV4 fun x hx h=>⟨by omega,by omega⟩).1 _ hr).below hb,trivial⟩,(hk1.trans hk2).below hb,fun o h=>.alt0 hPr h⟩
theorem AltS.more {w wr w3 w4 W7:World}{b i j j2 g cap g7 c7:Nat}{s:Tx}{L:List RT}{r:RT}(h:AltS w b i s j g cap L wr)(hbw:b < w.heap.size)(hk:Kp (· = b) wr w4)(h3:wr.heap.size≤w3.heap.size)(hjj:j < j2)(hj2:j2≤s.length)(hP:PB w4 b s j2)(hr:OkR (fun x=>w3.heap.size≤x) w4 r)(hgo:∀ o,Pr 1 ((L++ [r]).map htR) (s.drop j2) o→Pr 0 [] (s.drop i) o)
  (hg:(w4.alloc (.cells (encR r).toArray 233)).grownBy W7 (some g))(hrow:W7.ownsRow (w.heap.size+1) 233 6 (.slice (some ⟨g7,0,none⟩) (L.length+1) c7) (L.length+1) ((L++ [r]).flatMap encR))(hb7:w.heap.size+1≤g7)(hown:some g=some g7∨g7=(w4.alloc (.cells (encR r).toArray 233)).heap.size):AltS w b i s j2 g7 c7 (L++ [r]) W7:=by
 have hb:=(Below.refl w4.heap.size w4).alloc qJ (.cells (encR r).toArray 233);have hgb:=h.hg;have hglt:g < wr.heap.size:=(h.row.lt g rfl).2;have hs4:=hk.size;have hk2:Kp (· = g) (w4.alloc (.cells (encR r).toArray 233)) W7:=(Kp.refl _ _).grown hg fun x hx=>.inl (by injection hx with hx;exact hx.symm);have hk4:Kp (fun x=>x=g) w4 W7:=(Kp.ofBelow hb _).trans hk2;have hsz:=hb.size;have hne:∀ x,x < w4.heap.size→x≠g→x≠g7:=fun x hx hn e=>by
  rcases hown with ho | ho
  ·injection ho with ho
   omega
  ·omega
 have hlt:=h.z.lt;refine⟨by have:=h.hn;simp;omega,by simp,hj2,hk4.blk hP qG,hk4.blk (hk.blk h.z qG) qG,by simpa using hrow,hb7,zS8.2 fun x hx=>?_,(h.kp.trans hk).trans2 hk4 fun x hx e=>by omega,hgo⟩;rcases List.mem_append.1 hx with hx | hx
 ·have h1:=(zR3 hk fun y hy e=>by omega).1 _ (zS8.1 h.ok x hx);have h2:=(zV4 (M':=fun y=>w.heap.size+1≤y∧y≠g∧y≠g7) fun y hy hm=>⟨hm.1,hm.2,hne y hy hm.2⟩).1 _ h1;exact(zV4 fun y _ hm=>⟨hm.1,hm.2.2⟩).1 _ ((zR3 hk4 fun y hy e=>hy.2.1 e).1 _ h2)
 ·rw[List.mem_singleton.1 hx];have h2:=(zV4 (M':=fun y=>w.heap.size+1≤y∧y≠g∧y≠g7) fun y hy hm=>by
   have hyg:y≠g:=by omega
   exact⟨by omega,hyg,hne y hy hyg⟩).1 _ hr
  exact(zV4 fun y _ hm=>⟨hm.1,hm.2.2⟩).1 _ ((zR3 hk4 fun y hy e=>hy.2.1 e).1 _ h2)
end Go.Proofs.YtdgehhgjgifikaaGreatDoor
