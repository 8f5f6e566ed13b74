/- What the claim needs of:KB KC KD KE. -/
import Derived.Test.YtdgehhgjgifikaaGreatDoorK35
import Derived.Lib.IndexAny
import Derived.Test.YtdgehhgjgifikaaGreatDoorK6
namespace Go.Proofs.YtdgehhgjgifikaaGreatDoor
open Go.RowKit
theorem RetB.from {b:Nat}{s:Tx}{o:Option (Nat × List UInt8)}{w w1 w':World}{e:Ending}(h:RetB b s o w1 e w')(hk:Kp (· = b) w w1):RetB b s o w e w':=⟨hk.trans h.1,h.2⟩
theorem zW8 {s:Tx}{i:Nat}(h:i < s.length):s.drop i=zU0 s i ::s.drop (i+1):=by
 unfold zU0;rw[List.getElem?_eq_getElem h,List.drop_eq_getElem_cons h];rfl
theorem PB.drewN {w:World}{b:Nat}{s:Tx}{i:Nat}(h:PB w b s i)(n:Nat):PB (w.drewN n) b s i:=(show Blk _ _ _ _ from h).keep (qH.drewN n)
theorem yI8 (l:List UInt8)(c:UInt8):∃ r:Int,(r < 0↔c∉l)∧∀ w,Calls Tryz.prog 227 #[.string ⟨l.toArray⟩,.int .u8 (c.toNat:Nat)] w fun e w'=>e=.returned (.int .i64 r)∧w'=w:=by
 refine⟨Lib.indexByte l c,?_,fun w=>(Tryz.strings_IndexByte ⟨l.toArray⟩ (c.toNat:Nat) w).mono fun e w' h=>?_⟩
 ·have h:=Lib.contains_iff_indexByte l c;rw[Bool.eq_iff_iff,decide_eq_true_iff,List.contains_iff_mem] at h;rw[h];omega
 ·simpa using h
set_option maxRecDepth 100000 in
set_option maxHeartbeats 1000000 in
theorem xS1 (b:Nat)(s:Tx)(i zX0:Nat)(w:World)(hB:PB w b s i)(hs:s.length≤1000)(hi:i < s.length):Calls Tryz.prog 226 #[.pointer (some ⟨b,0,none⟩),.int .u8 (zX0:Nat)] w (RetB b s (escP zX0 (s.drop (i+1))) w):=by
 have HP:=qK (hB.at_ (i+1));obtain⟨x0,x1,f1⟩:=hB.cells;obtain⟨i1,hi1⟩:∃ i1,i+1=i1:=⟨_,rfl⟩;have p1:IntKind.i64.wrap ((i:Int)+1)=(i1:Int):=by simp[IntKind.wrap,IntKind.bits,IntKind.signed];omega
 rw[hi1] at HP ⊢;obtain⟨O,hO⟩:∃ O,escP zX0 (s.drop i1)=O:=⟨_,rfl⟩;rw[hO];have HO:=qK hO;have hil:i1≤s.length:=by omega
 clear hB hi1 hO;go_enter Tryz.func226,Tryz.ntmps226
 go_upto_region 2 with fail
 clear x0 x1 f1 p1;generalize w.setCell ⟨b,1,none⟩ (.int .i64 (i1:Nat))=w1 at HP ⊢;go_wp2_with fail
 refine(zU1 b s i1 w1 HP.out.1 hs hil).mono ?_;rintro e w2 ⟨rfl,hb2⟩;have HK:=qK (HP.out.2.trans (Kp.ofBelow hb2 _));have HP2:=qK (show PB w2 b s i1 from(show Blk _ _ _ _ from HP.out.1).keep hb2);clear hb2 HP;obtain⟨x0,x1,f1⟩:=HP2.out.cells;by_cases hlt:i1 < s.length
 ·have hge:¬ (s.length:Int)≤(i1:Int):=by omega
  obtain⟨i2,hi2⟩:∃ i2,i1+1=i2:=⟨_,rfl⟩;have p2:IntKind.i64.wrap ((i1:Int)+1)=(i2:Int):=by simp[IntKind.wrap,IntKind.bits,IntKind.signed];omega
  have HI2:=qK (show i2≤s.length from by omega);have hH:=qK (fun w hB=>hex_any b s i1 zX0 w hB hs hlt);have hO:=HO.out;rw[zW8 hlt] at hO;rw[hi2] at hH hO;generalize zU0 s i1=c at hO ⊢;clear hi2 hlt HO;by_cases h120:c=120
  ·subst h120;have hO2:hexP zX0 (s.drop i2)=O:=by rw[←hO,escP];exact(if_pos rfl).symm
   rw[hO2] at hH;clear hO hO2;go_upto_region 3 with fail
   go_quiet (fail)
   go_wp2_with fail
   refine(hH.out _ (HP2.out.drewN _)).mono ?_;rintro e w4 h;have HR:=qK (h.from (HK.out.drewN _));obtain⟨_,j,_,_,h⟩:=h;cases O with
   | none=>
     obtain⟨k,rfl⟩:=h;exact⟨rfl,HR.out⟩
   | some q=>
     obtain⟨v,u⟩:=q;obtain⟨rfl,_,_⟩:=h;go_wp2;go_ret;exact HR.out
  have n120:¬ ((c.toNat:Int)=120):=fun h=>h120 (by apply UInt8.toNat_inj.1;exact_mod_cast h);have e0:(match escV c with
   | none=>none
   | some v=>if v < zX0 then none else some (v,s.drop i2))=O:=by rw[←hO,escP];exact(if_neg h120).symm
  obtain⟨r,hr,hR⟩:=yI8 spcE c;have HIx:=qK hR;clear hR hH h120 hO;cases hv:escV c with
  | none=>
    rw[hv] at e0;have hn:c≠110∧c≠116∧c≠114∧r < 0:=by
     unfold escV at hv;split at hv
     ·cases hv
     split at hv
     ·cases hv
     split at hv
     ·cases hv
     split at hv
     ·cases hv
     ·exact⟨‹_›,‹_›,‹_›,hr.2 ‹_›⟩
    obtain⟨n1,n2,n3,hr0⟩:=hn;replace n1:¬ ((c.toNat:Int)=110):=fun h=>n1 (by apply UInt8.toNat_inj.1;exact_mod_cast h);replace n2:¬ ((c.toNat:Int)=116):=fun h=>n2 (by apply UInt8.toNat_inj.1;exact_mod_cast h);replace n3:¬ ((c.toNat:Int)=114):=fun h=>n3 (by apply UInt8.toNat_inj.1;exact_mod_cast h);have e1:none=O:=e0;subst e1;clear hv hr e0;go_upto_region 3 with fail
    go_quiet (fail)
    go_upto_region 14 with (refine(HIx.out _).mono ?_;rintro e w4 ⟨rfl,rfl⟩)
    have y:=(HP2.out.drewN nq).cells.2.1;go_wp2_with fail
    refine(zX1 b _ _).mono ?_;rintro e w4 ⟨rfl,rfl⟩;exact⟨rfl,zX8 (HK.out.drewN _) (HP2.out.drewN _) hil⟩
  | some v=>
    have hv2:(c=110∧v=10)∨(c=116∧v=9)∨(c=114∧v=13)∨(c≠110∧c≠116∧c≠114∧¬ r < 0∧v=c.toNat):=by
     unfold escV at hv;split at hv
     ·exact .inl ⟨‹_›,by injection hv with hv;exact hv.symm⟩
     split at hv
     ·exact .inr (.inl ⟨‹_›,by injection hv with hv;exact hv.symm⟩)
     split at hv
     ·exact .inr (.inr (.inl ⟨‹_›,by injection hv with hv;exact hv.symm⟩))
     split at hv
     ·refine .inr (.inr (.inr ⟨‹_›,‹_›,‹_›,fun h=>(hr.1 h) ‹_›,by injection hv with hv;exact hv.symm⟩))
     ·cases hv
    have hv256:v < 256:=by
     have:=c.toNat_lt;rcases hv2 with ⟨_,h⟩ | ⟨_,h⟩ | ⟨_,h⟩ | ⟨_,_,_,_,h⟩ <;> omega
    have hle:(v < zX0∧(v:Int) < (zX0:Int))∨(¬ v < zX0∧¬ (v:Int) < (zX0:Int)):=by omega
    have HP3:=qK (fun w3 (h:PB w3 b s i1)=>h.at_ i2);have HV:=qK hv256;have HIl:=qK hil;rw[hv] at e0;clear hv hr hv256;rcases hv2 with ⟨rfl,rfl⟩ | ⟨rfl,rfl⟩ | ⟨rfl,rfl⟩ | ⟨n1,n2,n3,hr0,rfl⟩
    ·clear HIl;rcases hle with ⟨hl1,hl2⟩ | ⟨hl1,hl2⟩
     ·have e1:none=O:=by rw[←e0];exact(if_pos hl1).symm
      have hl3:(10:Int) < (zX0:Int):=by omega
      subst e1;clear hl1 hl2 e0;go_upto_region 3 with fail
      go_quiet (fail)
      go_upto_region 15 with (refine(HIx.out _).mono ?_;rintro e w4 ⟨rfl,rfl⟩)
      have y:=(HP2.out.drewN nq).cells.2.1;go_wp2_with fail
      refine(zX1 b _ _).mono ?_;rintro e w4 ⟨rfl,rfl⟩;exact⟨rfl,zX8 (HK.out.drewN _) (HP2.out.drewN _) hil⟩
     ·have e1:some (10,s.drop i2)=O:=by rw[←e0];exact(if_neg hl1).symm
      have hl3:¬ (10:Int) < (zX0:Int):=by omega
      subst e1;clear hl1 hl2 e0;go_upto_region 3 with fail
      go_quiet (fail)
      go_upto_region 17 with (refine(HIx.out _).mono ?_;rintro e w4 ⟨rfl,rfl⟩)
      have HP4:=qK (HP2.out.drewN nq);obtain⟨y0,y1,y2⟩:=HP4.out.cells;have HP5:=qK (HP3.out _ HP4.out);have HR:=qK (zO8 ((HK.out.drewN nq).trans HP5.out.2) HP5.out.1 HI2.out HV.out);go_wp2;go_ret;exact HR.out
    ·clear HIl;rcases hle with ⟨hl1,hl2⟩ | ⟨hl1,hl2⟩
     ·have e1:none=O:=by rw[←e0];exact(if_pos hl1).symm
      have hl3:(9:Int) < (zX0:Int):=by omega
      subst e1;clear hl1 hl2 e0;go_upto_region 3 with fail
      go_quiet (fail)
      go_upto_region 15 with (refine(HIx.out _).mono ?_;rintro e w4 ⟨rfl,rfl⟩)
      have y:=(HP2.out.drewN nq).cells.2.1;go_wp2_with fail
      refine(zX1 b _ _).mono ?_;rintro e w4 ⟨rfl,rfl⟩;exact⟨rfl,zX8 (HK.out.drewN _) (HP2.out.drewN _) hil⟩
     ·have e1:some (9,s.drop i2)=O:=by rw[←e0];exact(if_neg hl1).symm
      have hl3:¬ (9:Int) < (zX0:Int):=by omega
      subst e1;clear hl1 hl2 e0;go_upto_region 3 with fail
      go_quiet (fail)
      go_upto_region 17 with (refine(HIx.out _).mono ?_;rintro e w4 ⟨rfl,rfl⟩)
      have HP4:=qK (HP2.out.drewN nq);obtain⟨y0,y1,y2⟩:=HP4.out.cells;have HP5:=qK (HP3.out _ HP4.out);have HR:=qK (zO8 ((HK.out.drewN nq).trans HP5.out.2) HP5.out.1 HI2.out HV.out);go_wp2;go_ret;exact HR.out
    ·clear HIl;rcases hle with ⟨hl1,hl2⟩ | ⟨hl1,hl2⟩
     ·have e1:none=O:=by rw[←e0];exact(if_pos hl1).symm
      have hl3:(13:Int) < (zX0:Int):=by omega
      subst e1;clear hl1 hl2 e0;go_upto_region 3 with fail
      go_quiet (fail)
      go_upto_region 15 with (refine(HIx.out _).mono ?_;rintro e w4 ⟨rfl,rfl⟩)
      have y:=(HP2.out.drewN nq).cells.2.1;go_wp2_with fail
      refine(zX1 b _ _).mono ?_;rintro e w4 ⟨rfl,rfl⟩;exact⟨rfl,zX8 (HK.out.drewN _) (HP2.out.drewN _) hil⟩
     ·have e1:some (13,s.drop i2)=O:=by rw[←e0];exact(if_neg hl1).symm
      have hl3:¬ (13:Int) < (zX0:Int):=by omega
      subst e1;clear hl1 hl2 e0;go_upto_region 3 with fail
      go_quiet (fail)
      go_upto_region 17 with (refine(HIx.out _).mono ?_;rintro e w4 ⟨rfl,rfl⟩)
      have HP4:=qK (HP2.out.drewN nq);obtain⟨y0,y1,y2⟩:=HP4.out.cells;have HP5:=qK (HP3.out _ HP4.out);have HR:=qK (zO8 ((HK.out.drewN nq).trans HP5.out.2) HP5.out.1 HI2.out HV.out);go_wp2;go_ret;exact HR.out
    ·clear HIl;replace n1:¬ ((c.toNat:Int)=110):=fun h=>n1 (by apply UInt8.toNat_inj.1;exact_mod_cast h);replace n2:¬ ((c.toNat:Int)=116):=fun h=>n2 (by apply UInt8.toNat_inj.1;exact_mod_cast h);replace n3:¬ ((c.toNat:Int)=114):=fun h=>n3 (by apply UInt8.toNat_inj.1;exact_mod_cast h);rcases hle with ⟨hl1,hl2⟩ | ⟨hl1,hl2⟩
     ·have e1:none=O:=by rw[←e0];exact(if_pos hl1).symm
      have hl3:(c.toNat:Int) < (zX0:Int):=by omega
      subst e1;clear hl1 hl2 e0;go_upto_region 3 with fail
      go_quiet (fail)
      go_upto_region 15 with (refine(HIx.out _).mono ?_;rintro e w4 ⟨rfl,rfl⟩)
      have y:=(HP2.out.drewN nq).cells.2.1;go_wp2_with fail
      refine(zX1 b _ _).mono ?_;rintro e w4 ⟨rfl,rfl⟩;exact⟨rfl,zX8 (HK.out.drewN _) (HP2.out.drewN _) hil⟩
     ·have e1:some (c.toNat,s.drop i2)=O:=by rw[←e0];exact(if_neg hl1).symm
      have hl3:¬ (c.toNat:Int) < (zX0:Int):=by omega
      subst e1;clear hl1 hl2 e0;go_upto_region 3 with fail
      go_quiet (fail)
      go_upto_region 17 with (refine(HIx.out _).mono ?_;rintro e w4 ⟨rfl,rfl⟩)
      have HP4:=qK (HP2.out.drewN nq);obtain⟨y0,y1,y2⟩:=HP4.out.cells;have HP5:=qK (HP3.out _ HP4.out);have HR:=qK (zO8 ((HK.out.drewN nq).trans HP5.out.2) HP5.out.1 HI2.out HV.out);go_wp2;go_ret;exact HR.out
 ·obtain rfl:none=O:=by rw[←HO.out,List.drop_eq_nil_of_le qG];rfl
  have hge:(s.length:Int)≤(i1:Int):=by omega
  go_wp2;go_quiet (fail)
  go_wp2_with fail
  refine(zX1 b _ _).mono ?_;rintro e w4 ⟨rfl,rfl⟩;exact⟨rfl,zX8 (HK.out.drewN _) (HP2.out.drewN _) hil⟩
theorem u8_lt (c:UInt8)(n:UInt8):c < n↔(c.toNat:Int) < (n.toNat:Int):=by rw[UInt8.lt_iff_toNat_lt];omega
set_option maxRecDepth 100000 in
set_option maxHeartbeats 1000000 in
theorem yF6 (b:Nat)(s:Tx)(i zX0:Nat)(w0 w:World)(hk:Kp (· = b) w0 w)(hB:PB w b s i)(hs:s.length≤1000)(hil:i≤s.length):Calls Tryz.prog 233 #[.pointer (some ⟨b,0,none⟩),.int .u8 (zX0:Nat)] w (RetB b s (yZ7 zX0 (s.drop i)) w0):=by
 obtain⟨O,hO⟩:∃ O,yZ7 zX0 (s.drop i)=O:=⟨_,rfl⟩;rw[hO];go_enter Tryz.func233,Tryz.ntmps233
 go_wp2_with fail
 refine(zU1 b s i w hB hs hil).mono ?_;rintro e w2 ⟨rfl,hb2⟩;have HK:=qK (hk.trans (Kp.ofBelow hb2 _));have HP:=qK (show PB w2 b s i from(show Blk _ _ _ _ from hB).keep hb2);clear hb2 hB hk;obtain⟨x0,x1,f1⟩:=HP.out.cells;by_cases hlt:i < s.length
 ·have hge:¬ (s.length:Int)≤(i:Int):=by omega
  obtain⟨i1,hi1⟩:∃ i1,i+1=i1:=⟨_,rfl⟩;have p1:IntKind.i64.wrap ((i:Int)+1)=(i1:Int):=by simp[IntKind.wrap,IntKind.bits,IntKind.signed];omega
  have HI1:=qK (show i1≤s.length from by omega);have hE:=qK (fun w hB=>xS1 b s i zX0 w hB hs hlt);rw[zW8 hlt] at hO;rw[hi1] at hE hO;generalize zU0 s i=c at hO ⊢;clear hi1 hlt;by_cases h92:c=92
  ·subst h92;have hO2:escP zX0 (s.drop i1)=O:=by rw[←hO,yZ7];exact(if_pos rfl).symm
   rw[hO2] at hE;clear hO hO2;go_upto_region 2 with fail
   go_quiet (fail)
   go_wp2_with fail
   refine(hE.out _ (HP.out.drewN _)).mono ?_;rintro e w4 h;have HR:=qK (h.from (HK.out.drewN _));obtain⟨_,j,_,_,h⟩:=h;cases O with
   | none=>
     obtain⟨k,rfl⟩:=h;exact⟨rfl,HR.out⟩
   | some q=>
     obtain⟨v,u⟩:=q;obtain⟨rfl,_,_⟩:=h;go_wp2;go_ret;exact HR.out
  have n92:¬ ((c.toNat:Int)=92):=fun h=>h92 (by apply UInt8.toNat_inj.1;exact_mod_cast h);rw[yZ7,if_neg h92] at hO;obtain⟨r,hr,hR⟩:=yI8 spcI c;have HIx:=qK hR;clear hR hE h92;have E1:=qK (show c < 32↔(c.toNat:Int) < 32 from u8_lt c 32);have E2:=qK (show 126 < c↔126 < (c.toNat:Int) from u8_lt 126 c);have hc:=c.toNat_lt;by_cases h1:(c.toNat:Int) < 32
  ·have e1:none=O:=by rw[←hO];exact(if_pos (.inl (E1.out.2 h1))).symm
   subst e1;clear hO;go_upto_region 2 with fail
   go_quiet (fail)
   go_upto_region 7 with (refine(HIx.out _).mono ?_;rintro e w4 ⟨rfl,rfl⟩)
   have y:=(HP.out.drewN nq).cells.2.1;go_wp2_with fail
   refine(zX1 b _ _).mono ?_;rintro e w4 ⟨rfl,rfl⟩;exact⟨rfl,zX8 (HK.out.drewN _) (HP.out.drewN _) hil⟩
  by_cases h2:(126:Int) < (c.toNat:Int)
  ·have e1:none=O:=by rw[←hO];exact(if_pos (.inr (.inl (E2.out.2 h2)))).symm
   subst e1;clear hO;go_upto_region 2 with fail
   go_quiet (fail)
   go_upto_region 7 with (refine(HIx.out _).mono ?_;rintro e w4 ⟨rfl,rfl⟩)
   have y:=(HP.out.drewN nq).cells.2.1;go_wp2_with fail
   refine(zX1 b _ _).mono ?_;rintro e w4 ⟨rfl,rfl⟩;exact⟨rfl,zX8 (HK.out.drewN _) (HP.out.drewN _) hil⟩
  by_cases h3:(c.toNat:Int) < (zX0:Int)
  ·have h3':c.toNat < zX0:=by omega
   have h33:=qK h3';clear h3';have e1:none=O:=by rw[←hO];exact(if_pos (.inr (.inr (.inl h33.out)))).symm
   subst e1;clear hO;go_upto_region 2 with fail
   go_quiet (fail)
   go_upto_region 7 with (refine(HIx.out _).mono ?_;rintro e w4 ⟨rfl,rfl⟩)
   have y:=(HP.out.drewN nq).cells.2.1;go_wp2_with fail
   refine(zX1 b _ _).mono ?_;rintro e w4 ⟨rfl,rfl⟩;exact⟨rfl,zX8 (HK.out.drewN _) (HP.out.drewN _) hil⟩
  by_cases h4:r < 0
  ·have h5:=hr.1 h4;have e1:some (c.toNat,s.drop i1)=O:=by
    rw[←hO];refine(if_neg ?_).symm;rintro(h | h | h | h)
    ·exact h1 (E1.out.1 h)
    ·exact h2 (E2.out.1 h)
    ·exact h3 qG
    ·exact h5 h
   have HC:=qK hc;subst e1;clear hO hr h5 hc;go_upto_region 2 with fail
   go_quiet (fail)
   go_upto_region 8 with (refine(HIx.out _).mono ?_;rintro e w4 ⟨rfl,rfl⟩)
   have HP4:=qK (HP.out.drewN nq);obtain⟨y0,y1,y2⟩:=HP4.out.cells;have HP5:=qK (HP4.out.at_ i1);have HR:=qK (zO8 ((HK.out.drewN nq).trans HP5.out.2) HP5.out.1 HI1.out HC.out);go_wp2;go_ret;exact HR.out
  ·have h5:c∈spcI:=Classical.byContradiction fun h=>h4 (hr.2 h);have h55:=qK h5;clear h5 hr;have e1:none=O:=by rw[←hO];exact(if_pos (.inr (.inr (.inr h55.out)))).symm
   subst e1;clear hO;go_upto_region 2 with fail
   go_quiet (fail)
   go_upto_region 7 with (refine(HIx.out _).mono ?_;rintro e w4 ⟨rfl,rfl⟩)
   have y:=(HP.out.drewN nq).cells.2.1;go_wp2_with fail
   refine(zX1 b _ _).mono ?_;rintro e w4 ⟨rfl,rfl⟩;exact⟨rfl,zX8 (HK.out.drewN _) (HP.out.drewN _) hil⟩
 ·obtain rfl:none=O:=by rw[←hO,List.drop_eq_nil_of_le qG];rfl
  have hge:(s.length:Int)≤(i:Int):=by omega
  go_wp2;go_quiet (fail)
  go_wp2_with fail
  refine(zX1 b _ _).mono ?_;rintro e w4 ⟨rfl,rfl⟩;exact⟨rfl,zX8 (HK.out.drewN _) (HP.out.drewN _) hil⟩
def zR8 (k a c d f:Int):Value:=.agg #[.int .i64 k,.int .u64 a,.int .u64 c,.int .u64 d,.int .u64 f,.slice none 0 0]
def leafK (k a c d f:Int):Prop:=k=2∨((k=0∨k=1)∧a=0∧c=0∧d=0∧f=0)
theorem regC {w:World}{g:Nat}{ty:TypeId}{v0 v1 v2 v3 v4 v5:Value}(h:Blk w g ty #[v0,v1,v2,v3,v4,v5]):w.cell? ⟨g,0,none⟩=some v0∧w.cell? ⟨g,1,none⟩=some v1∧w.cell? ⟨g,2,none⟩=some v2∧w.cell? ⟨g,3,none⟩=some v3∧w.cell? ⟨g,4,none⟩=some v4∧w.cell? ⟨g,5,none⟩=some v5:=⟨h.cell 0,h.cell 1,h.cell 2,h.cell 3,h.cell 4,h.cell 5⟩
theorem regF {w:World}{g:Nat}{ty:TypeId}{cs:Array Value}(h:Blk w g ty cs):w.frozen? ⟨g,0,none⟩=false∧w.frozen? ⟨g,1,none⟩=false∧w.frozen? ⟨g,2,none⟩=false∧w.frozen? ⟨g,3,none⟩=false∧w.frozen? ⟨g,4,none⟩=false∧w.frozen? ⟨g,5,none⟩=false:=⟨h.free 0,h.free 1,h.free 2,h.free 3,h.free 4,h.free 5⟩
def wrR (w:World)(g:Nat)(v0 v1 v2 v3 v4 v5:Value):World:=(((((w.setCell ⟨g,0,none⟩ v0).setCell ⟨g,1,none⟩ v1).setCell ⟨g,2,none⟩ v2).setCell ⟨g,3,none⟩ v3).setCell ⟨g,4,none⟩ v4).setCell ⟨g,5,none⟩ v5
theorem res6 {w:World}{g:Nat}{ty:TypeId}{z0 z1 z2 z3 z4 z5:Value}(h:Blk w g ty #[z0,z1,z2,z3,z4,z5])(v0 v1 v2 v3 v4 v5:Value):Blk (wrR w g v0 v1 v2 v3 v4 v5) g ty #[v0,v1,v2,v3,v4,v5]∧Kp (· = g) w (wrR w g v0 v1 v2 v3 v4 v5):=
 ⟨by unfold wrR;simpa using(((((h.set_ 0 v0).set_ 1 v1).set_ 2 v2).set_ 3 v3).set_ 4 v4).set_ 5 v5,((((((Kp.refl (· = g) w).setCell (p:=⟨g,0,none⟩) rfl v0).setCell (p:=⟨g,1,none⟩) rfl v1).setCell (p:=⟨g,2,none⟩) rfl v2).setCell (p:=⟨g,3,none⟩) rfl v3).setCell (p:=⟨g,4,none⟩) rfl v4).setCell (p:=⟨g,5,none⟩) rfl v5⟩
def RetO (w:World)(e:Ending)(w':World):Prop:=∃ a c d f:Int,e=.returned (zR8 2 a c d f)∧Below w.heap.size w w'
set_option maxRecDepth 100000 in
set_option maxHeartbeats 1000000 in
theorem xS2 (c:Nat)(w:World)(hc:c < 256):Calls Tryz.prog 225 #[.int .u8 (c:Nat)] w (RetO w):=by
 have hb:=(Below.refl w.heap.size w).alloc qJ (.cells #[.int .i64 0,.int .u64 0,.int .u64 0,.int .u64 0,.int .u64 0,.slice none 0 0] 233);have hB:=Blk.new w 233 #[.int .i64 0,.int .u64 0,.int .u64 0,.int .u64 0,.int .u64 0,.slice none 0 0];have HB:=qK hB;have Hb:=qK hb;clear hB hb;go_enter Tryz.func225,Tryz.ntmps225
 go_upto_region 1 with fail
 generalize w.alloc (.cells #[.int .i64 0,.int .u64 0,.int .u64 0,.int .u64 0,.int .u64 0,.slice none 0 0] 233)=w1 at HB Hb ⊢;go_wp2_with fail
 refine(zS7 c c w1 hc hc).mono ?_;rintro e w2 ⟨a,c1,d,f,rfl,hb2⟩;have hB:=HB.out.keep hb2;obtain⟨x0,x1,x2,x3,x4,x5⟩:=regC hB;obtain⟨f0,f1,f2,f3,f4,f5⟩:=regF hB;obtain⟨h6,hk⟩:=res6 hB (.int .i64 2) (.int .u64 a) (.int .u64 c1) (.int .u64 d) (.int .u64 f) (.slice none 0 0);have H6:=qK h6;have HR:=qK ((Hb.out.trans (hb2.mono Hb.out.size)).trans (hk.toBelow (Nat.le_trans Hb.out.size hb2.size) fun b hb e=>by omega));clear hb2 hB h6 hk;go_wp2;obtain⟨y0,y1,y2,y3,y4,y5⟩:=regC H6.out;unfold wrR at y0 y1 y2 y3 y4 y5;refine bodyPost_ret (v:=zR8 2 a c1 d f) ?_ rfl ⟨a,c1,d,f,rfl,HR.out⟩;simp[results,Tryz.results225,go_sem,y0,y1,y2,y3,y4,y5,zR8]
def RetC (c:UInt8)(w:World)(e:Ending)(w':World):Prop:=∃ a b d f:Int,e=.returned (.tuple #[.agg #[.int .u64 a,.int .u64 b,.int .u64 d,.int .u64 f],.bool (clsP c)])∧Below w.heap.size w w'
set_option maxRecDepth 100000 in
set_option maxHeartbeats 2000000 in
theorem xS3 (c:UInt8)(w:World):Calls Tryz.prog 224 #[.int .u8 (c.toNat:Nat)] w (RetC c w):=by
 have hb:=(Below.refl w.heap.size w).alloc qJ (.cells #[.int .u64 0,.int .u64 0,.int .u64 0,.int .u64 0] 230);have HB:=qK (Blk.new w 230 #[.int .u64 0,.int .u64 0,.int .u64 0,.int .u64 0]);have Hb:=qK hb;clear hb;go_enter Tryz.func224,Tryz.ntmps224
 go_upto_region 1 with fail
 generalize w.alloc (.cells #[.int .u64 0,.int .u64 0,.int .u64 0,.int .u64 0] 230)=w1 at HB Hb ⊢;go_wp2_with fail
 refine(zS7 48 57 w1 (by decide) (by decide)).mono ?_;rintro e w2 ⟨a,b,d,f,rfl,hb2⟩;go_upto_region 2 with fail
 have hbA:=(Below.refl w2.heap.size w2).alloc qJ (.cells #[.int .u64 a,.int .u64 b,.int .u64 d,.int .u64 f] 230);have hb13:=hb2.trans (hbA.mono hb2.size);have HB3:=qK (HB.out.keep hb13);have Hb3:=qK (Hb.out.trans (hb13.mono Hb.out.size));have HD:=qK (Blk.new w2 230 #[.int .u64 a,.int .u64 b,.int .u64 d,.int .u64 f]);clear hbA hb13 HB Hb hb2;obtain⟨g,hg⟩:∃ g,g=w2.heap.size:=⟨_,rfl⟩;rw[←hg] at HD ⊢;generalize w2.alloc (.cells #[.int .u64 a,.int .u64 b,.int .u64 d,.int .u64 f] 230)=w3 at HB3 Hb3 HD ⊢;clear hg;by_cases h1:c=100
 ·subst h1;have hcls:clsP 100=true:=rfl;obtain⟨k0,k1,k2,k3⟩:=setC HD.out;have hbx:=Below.refl w3.heap.size w3;have hX:=HB3.out.keep hbx;obtain⟨x0,x1,x2,x3⟩:=setC hX;obtain⟨q0,q1,q2,q3⟩:=setF hX;obtain⟨hB8,hK8⟩:=res4 hX (.int .u64 a) (.int .u64 b) (.int .u64 d) (.int .u64 f);have H8:=qK hB8;have HR:=qK ((Hb3.out.trans (hbx.mono Hb3.out.size)).trans (hK8.toBelow (Nat.le_trans Hb3.out.size hbx.size) fun b hb e=>by omega));clear hbx hX hB8 hK8;go_wp2;obtain⟨y0,y1,y2,y3⟩:=setC H8.out;refine bodyPost_ret (v:=.tuple #[.agg #[.int .u64 a,.int .u64 b,.int .u64 d,.int .u64 f],.bool true]) ?_ rfl ⟨a,b,d,f,by rw[hcls],HR.out⟩;simp[results,Tryz.results224,go_sem,y0,y1,y2,y3]
 have n1:¬ ((c.toNat:Int)=100):=fun h=>h1 (by apply UInt8.toNat_inj.1;exact_mod_cast h);by_cases h2:c=119
 ·subst h2;have hcls:clsP 119=true:=rfl;clear n1 h1;go_upto_region 6 with fail
  go_wp2_with fail
  refine(zS7 97 122 w3 (by decide) (by decide)).mono ?_;rintro e w4 ⟨a4,b4,d4,f4,rfl,hb4⟩;go_wp2_with fail
  refine(zS7 65 90 w4 (by decide) (by decide)).mono ?_;rintro e w5 ⟨a5,b5,d5,f5,rfl,hb5⟩;go_wp2_with fail
  refine(zK3 a4 b4 d4 f4 a5 b5 d5 f5 w5).mono ?_;rintro e w6 ⟨a6,b6,d6,f6,rfl,hb6⟩;go_upto_region 7 with fail
  have hbA:=(Below.refl w6.heap.size w6).alloc qJ (.cells #[.int .u64 a6,.int .u64 b6,.int .u64 d6,.int .u64 f6] 230);have hb36:Below w3.heap.size w3 w6:=(hb4.trans (hb5.mono hb4.size)).trans (hb6.mono (Nat.le_trans hb4.size hb5.size));have HL:=qK (Blk.new w6 230 #[.int .u64 a6,.int .u64 b6,.int .u64 d6,.int .u64 f6]);have Hb37:=qK (hb36.trans (hbA.mono hb36.size));clear hbA hb36 hb4 hb5 hb6;obtain⟨g6,hg6⟩:∃ g6,g6=w6.heap.size:=⟨_,rfl⟩;rw[←hg6] at HL ⊢;generalize w6.alloc (.cells #[.int .u64 a6,.int .u64 b6,.int .u64 d6,.int .u64 f6] 230)=w7 at HL Hb37 ⊢;clear hg6;obtain⟨k0,k1,k2,k3⟩:=setC (HD.out.keep Hb37.out);obtain⟨l0,l1,l2,l3⟩:=setC HL.out;go_wp2_with fail
  refine(zK3 a b d f a6 b6 d6 f6 w7).mono ?_;rintro e w8 ⟨a8,b8,d8,f8,rfl,hb8⟩;go_wp2_with fail
  refine(zS7 95 95 w8 (by decide) (by decide)).mono ?_;rintro e w9 ⟨a9,b9,d9,f9,rfl,hb9⟩;go_wp2_with fail
  refine(zK3 a8 b8 d8 f8 a9 b9 d9 f9 w9).mono ?_;rintro e w10 ⟨a10,b10,d10,f10,rfl,hb10⟩;have hbx:=Hb37.out.trans (((hb8.trans (hb9.mono hb8.size)).trans (hb10.mono (Nat.le_trans hb8.size hb9.size))).mono Hb37.out.size);have hX:=HB3.out.keep hbx;obtain⟨x0,x1,x2,x3⟩:=setC hX;obtain⟨q0,q1,q2,q3⟩:=setF hX;obtain⟨hB8,hK8⟩:=res4 hX (.int .u64 a10) (.int .u64 b10) (.int .u64 d10) (.int .u64 f10);have H8:=qK hB8;have HR:=qK ((Hb3.out.trans (hbx.mono Hb3.out.size)).trans (hK8.toBelow (Nat.le_trans Hb3.out.size hbx.size) fun b hb e=>by omega));clear hbx hX hB8 hK8;go_wp2;obtain⟨y0,y1,y2,y3⟩:=setC H8.out;refine bodyPost_ret (v:=.tuple #[.agg #[.int .u64 a10,.int .u64 b10,.int .u64 d10,.int .u64 f10],.bool true]) ?_ rfl ⟨a10,b10,d10,f10,by rw[hcls],HR.out⟩;simp[results,Tryz.results224,go_sem,y0,y1,y2,y3]
 have n2:¬ ((c.toNat:Int)=119):=fun h=>h2 (by apply UInt8.toNat_inj.1;exact_mod_cast h);by_cases h3:c=115
 ·subst h3;have hcls:clsP 115=true:=rfl;clear n1 h1 n2 h2;go_upto_region 9 with fail
  go_wp2_with fail
  refine(zS7 9 10 w3 (by decide) (by decide)).mono ?_;rintro e w4 ⟨a4,b4,d4,f4,rfl,hb4⟩;go_wp2_with fail
  refine(zS7 13 13 w4 (by decide) (by decide)).mono ?_;rintro e w5 ⟨a5,b5,d5,f5,rfl,hb5⟩;go_wp2_with fail
  refine(zK3 a4 b4 d4 f4 a5 b5 d5 f5 w5).mono ?_;rintro e w6 ⟨a6,b6,d6,f6,rfl,hb6⟩;go_wp2_with fail
  refine(zS7 32 32 w6 (by decide) (by decide)).mono ?_;rintro e w7 ⟨a7,b7,d7,f7,rfl,hb7⟩;go_wp2_with fail
  refine(zK3 a6 b6 d6 f6 a7 b7 d7 f7 w7).mono ?_;rintro e w8 ⟨a8,b8,d8,f8,rfl,hb8⟩;have hbx:=(((hb4.trans (hb5.mono hb4.size)).trans (hb6.mono (Nat.le_trans hb4.size hb5.size))).trans (hb7.mono (Nat.le_trans (Nat.le_trans hb4.size hb5.size) hb6.size))).trans (hb8.mono (Nat.le_trans (Nat.le_trans (Nat.le_trans hb4.size hb5.size) hb6.size) hb7.size));have hX:=HB3.out.keep hbx;obtain⟨x0,x1,x2,x3⟩:=setC hX;obtain⟨q0,q1,q2,q3⟩:=setF hX;obtain⟨hB8,hK8⟩:=res4 hX (.int .u64 a8) (.int .u64 b8) (.int .u64 d8) (.int .u64 f8);have H8:=qK hB8;have HR:=qK ((Hb3.out.trans (hbx.mono Hb3.out.size)).trans (hK8.toBelow (Nat.le_trans Hb3.out.size hbx.size) fun b hb e=>by omega));clear hbx hX hB8 hK8;go_wp2;obtain⟨y0,y1,y2,y3⟩:=setC H8.out;refine bodyPost_ret (v:=.tuple #[.agg #[.int .u64 a8,.int .u64 b8,.int .u64 d8,.int .u64 f8],.bool true]) ?_ rfl ⟨a8,b8,d8,f8,by rw[hcls],HR.out⟩;simp[results,Tryz.results224,go_sem,y0,y1,y2,y3]
 have n3:¬ ((c.toNat:Int)=115):=fun h=>h3 (by apply UInt8.toNat_inj.1;exact_mod_cast h);have hcls:clsP c=false:=by simp[clsP,h1,h2,h3]
 clear h1 h2 h3;have hbx:=Below.refl w3.heap.size w3;have hX:=HB3.out.keep hbx;obtain⟨x0,x1,x2,x3⟩:=setC hX;obtain⟨q0,q1,q2,q3⟩:=setF hX;obtain⟨hB8,hK8⟩:=res4 hX (.int .u64 0) (.int .u64 0) (.int .u64 0) (.int .u64 0);have H8:=qK hB8;have HR:=qK ((Hb3.out.trans (hbx.mono Hb3.out.size)).trans (hK8.toBelow (Nat.le_trans Hb3.out.size hbx.size) fun b hb e=>by omega));clear hbx hX hB8 hK8;go_wp2;obtain⟨y0,y1,y2,y3⟩:=setC H8.out;refine bodyPost_ret (v:=.tuple #[.agg #[.int .u64 0,.int .u64 0,.int .u64 0,.int .u64 0],.bool false]) ?_ rfl ⟨0,0,0,0,by rw[hcls],HR.out⟩;simp[results,Tryz.results224,go_sem,y0,y1,y2,y3]
def RetLf (b:Nat)(s:Tx)(o:Option (List UInt8))(w:World)(e:Ending)(w':World):Prop:=
 Kp (· = b) w w'∧∃ j,j≤s.length∧PB w' b s j∧match o with
  | some t=>s.drop j=t∧∃ k a c d f,leafK k a c d f∧e=.returned (zR8 k a c d f)
  | none=>∃ k,e=flt k
def SetAt (w:World)(g:Nat):Prop:=∃ a b c d:Int,Blk w g 230 #[.int .u64 a,.int .u64 b,.int .u64 c,.int .u64 d]
theorem SetAt.keep {w w':World}{g:Nat}(h:SetAt w g)(hb:Below w.heap.size w w'):SetAt w' g:=h.imp fun _ ⟨b,c,d,h⟩=>⟨b,c,d,h.keep hb⟩
theorem SetAt.kp {N:Nat→Prop}{w w':World}{g:Nat}(h:SetAt w g)(hk:Kp N w w')(hn:¬ N g):SetAt w' g:=h.imp fun _ ⟨b,c,d,h⟩=>⟨b,c,d,hk.blk h hn⟩
def atV (b:Nat)(w:World):Nat:=match w.cell? ⟨b,1,none⟩ with
 | some (.int _ k)=>k.toNat
 | _=>0
theorem PB.atV {w:World}{b:Nat}{s:Tx}{i:Nat}(h:PB w b s i):atV b w=i:=by unfold Go.Proofs.YtdgehhgjgifikaaGreatDoor.atV;rw[h.cells.2.1];rfl
def StP (start r:List UInt8):Bool→Prop
 | true=>∀ O,SetL r O→SetL start O
 | false=>(∀ t,r=93 ::t→SetL start (some t))∧(r.head?≠some 93→∀ O,SetL r O→SetL start O)
theorem zP8 {s:Tx}{i:Nat}(h:zU0 s i≠0):i < s.length:=by
 by_cases hi:i < s.length
 ·exact hi
 ·exfalso;apply h;unfold zU0;rw[List.getElem?_eq_none qG];rfl
theorem hexP_len {zX0:Nat}:∀ {r:List UInt8}{v:Nat}{t:List UInt8},hexP zX0 r=some (v,t)→t.length < r.length
 | [],_,_,h=>by cases h
 | [_],_,_,h=>by cases h
 | a ::b ::u,v,t,h=>by
   rw[hexP] at h;split at h
   ·split at h
    ·cases h
    ·injection h with h;injection h with _ h;subst h;simp only[List.length_cons];omega
   ·cases h
theorem yF7 {zX0:Nat}:∀ {r:List UInt8}{v:Nat}{t:List UInt8},escP zX0 r=some (v,t)→t.length < r.length
 | [],_,_,h=>by cases h
 | c ::u,v,t,h=>by
   rw[escP] at h;split at h
   ·have:=hexP_len h;simp only[List.length_cons];omega
   ·split at h
    ·cases h
    ·exact fA
theorem yL6 {zX0:Nat}:∀ {r:List UInt8}{v:Nat}{t:List UInt8},yZ7 zX0 r=some (v,t)→t.length < r.length
 | [],_,_,h=>by cases h
 | c ::u,v,t,h=>by
   rw[yZ7] at h;split at h
   ·have:=yF7 h;simp only[List.length_cons];omega
   ·exact fA
theorem zE7 {r t:List UInt8}(h:zL7 r=some t):t.length < r.length:=by
 unfold zL7 at h;split at h
 ·cases h
 ·rename_i lo u hi;have h1:=yL6 hi;split at h
  ·rw[Option.map_eq_some_iff] at h;obtain⟨q,h2,rfl⟩:=h;have h3:=yL6 h2;rw[List.length_tail] at h3;omega
  ·injection h with h;subst h;exact h1
set_option maxRecDepth 100000 in
theorem zM2 {o:Oper}{P:Program}{Q:Exit→Act→World→Prop}{K:Act→World→Prop}{W:World}{fs:List Fact}{G:Act→Prop}{aa ab ac ad ae af ag ah ai aj ak al am an ao ap aq ar au av aw ax ay az aA aB aC aD aE aF aG aH aI aJ aK aL aM aN aO aP aQ aR aS aT aU aV aW aX aY aZ a0 a1 a2 a3 a4 a5 a6 a7 a8 a9 ba bb bc bd be bf bg bh bi bj bk bl bm bn bo bp bq br bs bt bu bv bw bx bz:Value}(hG:∀ A,o.wp P A W K Q→G A)(h:o.wp P (Act.mk #[aa,ab,ac,ad,ae,af,ag,ah,ai,aj,ak,al,am,an,ao,ap,aq,ar,au,av,aw,ax,ay,az,aA,aB,aC,aD,aE,aF,aG,aH,aI,aJ,aK,aL,aM,aN,aO,aP,aQ,aR,aS,aT,aU,aV,aW,aX,aY,aZ,a0,a1,a2,a3,a4,a5,a6,a7,a8,a9,ba,bb,bc,bu,bv,bw,bx,bz,bi,bj,bk,bl,bm,bn,bo,bp,bq,br,bs,bt] []) W K Q):zY0 W G [] fs (Act.put (Act.put (Act.put (Act.put (Act.put (Act.mk #[aa,ab,ac,ad,ae,af,ag,ah,ai,aj,ak,al,am,an,ao,ap,aq,ar,au,av,aw,ax,ay,az,aA,aB,aC,aD,aE,aF,aG,aH,aI,aJ,aK,aL,aM,aN,aO,aP,aQ,aR,aS,aT,aU,aV,aW,aX,aY,aZ,a0,a1,a2,a3,a4,a5,a6,a7,a8,a9,ba,bb,bc,bd,be,bf,bg,bh,bi,bj,bk,bl,bm,bn,bo,bp,bq,br,bs,bt] []) (some 63) bu) (some 64) bv) (some 65) bw) (some 66) bx) (some 67) bz):=
 zV2 qF hG h
set_option maxRecDepth 100000 in
set_option maxHeartbeats 8000000 in
theorem set_any (b:Nat)(s:Tx)(i:Nat)(w:World)(hB:PB w b s i)(hs:s.length≤1000)(hi:i < s.length):Calls Tryz.prog 222 #[.pointer (some ⟨b,0,none⟩)] w fun e w'=>∃ O,SetP (s.drop (i+1)) O∧RetLf b s O w e w':=by
 have hbl:b < w.heap.size:=(show Blk _ _ _ _ from hB).lt;have hb1:=(Below.refl w.heap.size w).alloc qJ (.cells #[.int .i64 0,.int .u64 0,.int .u64 0,.int .u64 0,.int .u64 0,.slice none 0 0] 233);have HZ1:=qK (Blk.new w 233 #[.int .i64 0,.int .u64 0,.int .u64 0,.int .u64 0,.int .u64 0,.slice none 0 0]);have hP1:PB (w.alloc (.cells #[.int .i64 0,.int .u64 0,.int .u64 0,.int .u64 0,.int .u64 0,.slice none 0 0] 233)) b s i:=(show Blk _ _ _ _ from hB).keep hb1;have HK1:=qK (Kp.ofBelow hb1 (· = b));obtain⟨i1,hi1⟩:∃ i1,i+1=i1:=⟨_,rfl⟩;have p1:IntKind.i64.wrap ((i:Int)+1)=(i1:Int):=by simp[IntKind.wrap,IntKind.bits,IntKind.signed];omega
 have hil:i1≤s.length:=by omega
 have HP2:=qK (hP1.at_ i1);obtain⟨x0,x1,f1⟩:=hP1.cells;rw[hi1];clear hB hb1 hP1 hi1;go_enter Tryz.func222,Tryz.ntmps222
 go_upto_region 1 with fail
 generalize w.alloc (.cells #[.int .i64 0,.int .u64 0,.int .u64 0,.int .u64 0,.int .u64 0,.slice none 0 0] 233)=w1 at HZ1 HK1 HP2 x0 x1 f1 ⊢;go_upto_region 2 with fail
 generalize w1.setCell ⟨b,1,none⟩ (.int .i64 (i1:Nat))=w2 at HP2 ⊢;clear x0 x1 f1 p1;have HK2:=qK (HK1.out.trans HP2.out.2);have HZ2:=qK (HP2.out.2.blk HZ1.out qG);have hN:=zU1 b s i1;have HD:=qK (fun h=>@zW8 s i1 h);have HL:=qK (@zP8 s i1);have HH:=qK (zW7 s i1);generalize zU0 s i1=c at hN HD HL HH;have HN:=qK hN;clear HK1 HZ1 hN;go_wp2_with fail
 refine(HN.out w2 HP2.out.1 hs hil).mono ?_;rintro e w3 ⟨rfl,hb3⟩;have HP3:=qK (show PB w3 b s i1 from(show Blk _ _ _ _ from HP2.out.1).keep hb3);have HK3:=qK (HK2.out.below hb3);have HZ3:=qK (HZ2.out.keep hb3);clear hb3 HP2 HK2 HZ2;by_cases h94:c=94
 case' neg=>
  have n94:¬ ((c.toNat:Int)=94):=fun h=>h94 (by apply UInt8.toNat_inj.1;exact_mod_cast h);go_wp2_with fail
  refine(HN.out w3 HP3.out hs hil).mono ?_;rintro e w4 ⟨rfl,hb4⟩;have HP4:=qK (show PB w4 b s i1 from(show Blk _ _ _ _ from HP3.out).keep hb4);have HK4:=qK (HK3.out.below hb4);have HZ4:=qK (HZ3.out.keep hb4);clear hb4 HP3 HK3 HZ3;by_cases h93:c=93
  ·subst h93;have hjl:=HL.out (by decide);obtain⟨j1,hj1⟩:∃ j1,i1+1=j1:=⟨_,rfl⟩;have p1:IntKind.i64.wrap ((i1:Int)+1)=(j1:Int):=by simp[IntKind.wrap,IntKind.bits,IntKind.signed];omega
   have HSL:=qK (show SetP (s.drop i1) (some (s.drop j1)) from by rw[HD.out hjl,hj1];exact .nil);have HJ1:=qK (show j1≤s.length from by omega);have HPa:=qK (HP4.out.at_ j1);obtain⟨x0,x1,f1⟩:=HP4.out.cells;clear hj1 hjl;go_upto_region 7 with fail
   generalize w4.setCell ⟨b,1,none⟩ (.int .i64 (j1:Nat))=wa at HPa ⊢;clear x0 x1 f1 p1;have HKa:=qK (HK4.out.trans HPa.out.2);have hz:=HPa.out.2.blk HZ4.out qG;obtain⟨x0,x1,x2,x3,x4,x5⟩:=regC hz;obtain⟨f0,f1,f2,f3,f4,f5⟩:=regF hz;obtain⟨h6,hk6⟩:=res6 hz (.int .i64 0) (.int .u64 0) (.int .u64 0) (.int .u64 0) (.int .u64 0) (.slice none 0 0);have H6:=qK h6;have HPf:=qK (show PB _ b s j1 from hk6.blk HPa.out.1 qG);have HKf:=qK (HKa.out.trans2 hk6 fun i hi e=>by omega);clear hz h6 hk6;go_wp2;obtain⟨y0,y1,y2,y3,y4,y5⟩:=regC H6.out;unfold wrR at y0 y1 y2 y3 y4 y5;refine bodyPost_ret (v:=zR8 0 0 0 0 0) ?_ rfl ⟨some (s.drop j1),HSL.out,HKf.out,j1,HJ1.out,HPf.out,rfl,0,0,0,0,0,.inr ⟨.inl rfl,rfl,rfl,rfl,rfl⟩,rfl⟩;simp[results,Tryz.results222,go_sem,y0,y1,y2,y3,y4,y5,zR8]
  have n93:¬ ((c.toNat:Int)=93):=fun h=>h93 (by apply UInt8.toNat_inj.1;exact_mod_cast h);have e93:((c.toNat:Int) == 93)=false:=by simpa using n93
  obtain⟨i0,hi0⟩:∃ i0,i1=i0:=⟨_,rfl⟩;have HSP:=qK (show ∀ O,SetL (s.drop i0) O→SetP (s.drop i1) O from fun O h=>by
   rw[←hi0] at h;refine .pos ?_ ?_ h
   ·intro h2;have h3:=HH.out;rw[h2] at h3;exact h94 h3
   ·intro h2;have h3:=HH.out;rw[h2] at h3;exact h93 h3)
  have HP4:=qK (show PB w4 b s i0 from hi0▸HP4.out);have HI0:=qK (show i0≤s.length from hi0▸hil);clear hi0 h94 h93 HD HL HH HN
 case' pos=>
  subst h94;have hjl:=HL.out (by decide);obtain⟨i0,hi0⟩:∃ i0,i1+1=i0:=⟨_,rfl⟩;have p1:IntKind.i64.wrap ((i1:Int)+1)=(i0:Int):=by simp[IntKind.wrap,IntKind.bits,IntKind.signed];omega
  have HSP:=qK (show ∀ O,SetL (s.drop i0) O→SetP (s.drop i1) O from fun O h=>by rw[HD.out hjl,hi0];exact .neg h);have HI0:=qK (show i0≤s.length from by omega);have HPa:=qK (HP3.out.at_ i0);obtain⟨x0,x1,f1⟩:=HP3.out.cells;clear hjl hi0 HD HL HH HN;go_upto_region 5 with fail
  generalize w3.setCell ⟨b,1,none⟩ (.int .i64 (i0:Nat))=w4 at HPa ⊢;clear x0 x1 f1 p1;have HP4:=qK HPa.out.1;have HK4:=qK (HK3.out.trans HPa.out.2);have HZ4:=qK (HPa.out.2.blk HZ3.out qG);clear HPa HP3 HK3 HZ3
 all_goals
  have hb8:=(Below.refl w4.heap.size w4).alloc qJ (.cells #[.int .u64 0,.int .u64 0,.int .u64 0,.int .u64 0] 230);have HS8:=qK (Blk.new w4 230 #[.int .u64 0,.int .u64 0,.int .u64 0,.int .u64 0]);have HG8:=qK (show w.heap.size < w4.heap.size from HZ4.out.lt);have HP8:=qK (show PB (w4.alloc (.cells #[.int .u64 0,.int .u64 0,.int .u64 0,.int .u64 0] 230)) b s i0 from(show Blk _ _ _ _ from HP4.out).keep hb8);have HK8:=qK (HK4.out.below hb8);have HZ8:=qK (HZ4.out.keep hb8);clear hb8 HP4 HK4 HZ4;go_upto_region 9 with fail
  obtain⟨g4,hg4⟩:∃ g4,g4=w4.heap.size:=⟨_,rfl⟩;rw[←hg4] at HS8 HG8 ⊢;have HG:=qK (show w.heap.size < g4∧b < w.heap.size from⟨HG8.out,hbl⟩);generalize w4.alloc (.cells #[.int .u64 0,.int .u64 0,.int .u64 0,.int .u64 0] 230)=w8 at HS8 HP8 HK8 HZ8 ⊢;clear hg4 HG8;go_wp2;go_loopw [5] (fun iv wq=>∃ (fst:Bool) (j:Nat),iv=.bool fst∧j≤s.length∧Hid (PB wq b s j)∧Hid (Kp (· = b) w wq)∧Hid (Blk wq w.heap.size 233 #[.int .i64 0,.int .u64 0,.int .u64 0,.int .u64 0,.int .u64 0,.slice none 0 0])∧Hid (SetAt wq g4)∧Hid (StP (s.drop i0) (s.drop j) fst)) (fun _ wq=>s.length-atV b wq)
  case atStart=>exact⟨true,i0,rfl,HI0.out,HP8,HK8,HZ8,qK ⟨_,_,_,_,HS8.out⟩,qK fun O h=>h⟩
  case round=>
   clear HS8 HP8 HK8 HZ8;obtain⟨fst,j,rfl,hj,HPr,HK,HZ,HS,HSt⟩:=hrel;cases fst;case' true=>
    have HP5:=HPr;have HK5:=HK;have HZ5:=HZ;have HS5:=HS;have HSt5:=qK (show ∀ O,SetL (s.drop j) O→SetL (s.drop i0) O from HSt.out);clear HK HZ HS HSt
   case' false=>
    go_wp2_with fail
    refine(zU1 b s j wr HPr.out hs hj).mono ?_;rintro e w5 ⟨rfl,hb5⟩;have HP5:=qK (show PB w5 b s j from(show Blk _ _ _ _ from HPr.out).keep hb5);have HK5:=qK (HK.out.below hb5);have HZ5:=qK (HZ.out.keep hb5);have HS5:=qK (HS.out.keep hb5);clear hb5 HK HZ HS;by_cases h93:zU0 s j=93
    ·clear hj;have hjl:=zP8 (by rw[h93];decide);obtain⟨j1,hj1⟩:∃ j1,j+1=j1:=⟨_,rfl⟩;have p1:IntKind.i64.wrap ((j:Int)+1)=(j1:Int):=by simp[IntKind.wrap,IntKind.bits,IntKind.signed];omega
     have HSL:=qK (HSP.out _ (HSt.out.1 (s.drop j1) (by rw[zW8 hjl,h93,hj1])));have HJ1:=qK (show j1≤s.length from by omega);have HPa:=qK (HP5.out.at_ j1);obtain⟨x0,x1,f1⟩:=HP5.out.cells;clear hj1 hjl HSt;rw[h93];go_upto_region 19 with fail
     generalize w5.setCell ⟨b,1,none⟩ (.int .i64 (j1:Nat))=wa at HPa ⊢;clear x0 x1 f1 p1 h93;have HKa:=qK (HK5.out.trans HPa.out.2);have HZa:=qK (HPa.out.2.blk HZ5.out (by have:=HG.out;omega));have HPb:=qK HPa.out.1;obtain⟨sa,sb,sc,sd,hS5⟩:=HS5.out;have HSa:=qK (HPa.out.2.blk hS5 (by have:=HG.out;omega));clear hS5 HS5 HPa HK5 HZ5 HP5;first
      | (go_upto_region 20 with fail
         obtain⟨k0,k1,k2,k3⟩:=setC HSa.out;go_wp2_with fail
         refine(xT6 sa sb sc sd wa).mono ?_;rintro e wb ⟨ta,tb,tc,td,rfl,hbb⟩;have hSb:=HSa.out.keep hbb;clear k0 k1 k2 k3;obtain⟨q0,q1,q2,q3⟩:=setF hSb;obtain⟨z0,z1,z2,z3⟩:=setC hSb;obtain⟨h4,hk4⟩:=res4 hSb (.int .u64 ta) (.int .u64 tb) (.int .u64 tc) (.int .u64 td);have HSc:=qK h4;have HPc:=qK (show PB _ b s j1 from hk4.blk ((show Blk _ _ _ _ from HPb.out).keep hbb) (by have:=HG.out;omega));have HKc:=qK ((HKa.out.below hbb).trans2 hk4 fun i hi e=>by have:=HG.out;omega);have HZc:=qK (hk4.blk (HZa.out.keep hbb) (by have:=HG.out;omega));clear hSb h4 hk4 hbb;go_upto_region 21 with fail
         clear q0 q1 q2 q3 z0 z1 z2 z3;generalize (((wb.setCell ⟨g4,0,none⟩ (.int .u64 ta)).setCell ⟨g4,1,none⟩ (.int .u64 tb)).setCell ⟨g4,2,none⟩ (.int .u64 tc)).setCell ⟨g4,3,none⟩ (.int .u64 td)=wc at HSc HPc HKc HZc ⊢;obtain⟨k0,k1,k2,k3⟩:=setC HSc.out;have hz:=HZc.out;obtain⟨x0,x1,x2,x3,x4,x5⟩:=regC hz;obtain⟨f0,f1,f2,f3,f4,f5⟩:=regF hz;obtain⟨h6,hk6⟩:=res6 hz (.int .i64 2) (.int .u64 ta) (.int .u64 tb) (.int .u64 tc) (.int .u64 td) (.slice none 0 0);have H6:=qK h6;have HPf:=qK (show PB _ b s j1 from hk6.blk HPc.out (by have:=HG.out;omega));have HKf:=qK (HKc.out.trans2 hk6 fun i hi e=>by omega);clear hz h6 hk6;go_wp2;obtain⟨y0,y1,y2,y3,y4,y5⟩:=regC H6.out;unfold wrR at y0 y1 y2 y3 y4 y5;refine bodyPost_ret (v:=zR8 2 ta tb tc td) ?_ rfl ⟨some (s.drop j1),HSL.out,HKf.out,j1,HJ1.out,HPf.out,rfl,2,ta,tb,tc,td,.inl rfl,rfl⟩;simp[results,Tryz.results222,go_sem,y0,y1,y2,y3,y4,y5,zR8])
      | (go_upto_region 21 with fail
         obtain⟨k0,k1,k2,k3⟩:=setC HSa.out;have hz:=HZa.out;obtain⟨x0,x1,x2,x3,x4,x5⟩:=regC hz;obtain⟨f0,f1,f2,f3,f4,f5⟩:=regF hz;obtain⟨h6,hk6⟩:=res6 hz (.int .i64 2) (.int .u64 sa) (.int .u64 sb) (.int .u64 sc) (.int .u64 sd) (.slice none 0 0);have H6:=qK h6;have HPf:=qK (show PB _ b s j1 from hk6.blk HPb.out (by have:=HG.out;omega));have HKf:=qK (HKa.out.trans2 hk6 fun i hi e=>by omega);clear hz h6 hk6;go_wp2;obtain⟨y0,y1,y2,y3,y4,y5⟩:=regC H6.out;unfold wrR at y0 y1 y2 y3 y4 y5;refine bodyPost_ret (v:=zR8 2 sa sb sc sd) ?_ rfl ⟨some (s.drop j1),HSL.out,HKf.out,j1,HJ1.out,HPf.out,rfl,2,sa,sb,sc,sd,.inl rfl,rfl⟩;simp[results,Tryz.results222,go_sem,y0,y1,y2,y3,y4,y5,zR8])
    have n93:¬ (((zU0 s j).toNat:Int)=93):=fun h=>h93 (by apply UInt8.toNat_inj.1;exact_mod_cast h);have HSt5:=qK (HSt.out.2 fun h=>h93 (by rw[zW7,h];rfl));clear h93 HSt
   all_goals
    go_upto_region 12 with fail
    go_wp2_with fail
    refine(yF6 b s j 0 _ _ (Kp.refl _ _) HP5.out hs hj).mono ?_;rintro e w6 ⟨hk6,j6,hj6,hP6,h⟩;have HK6:=qK (HK5.out.trans hk6);have HZ6:=qK (hk6.blk HZ5.out (by have:=HG.out;omega));have HS6:=qK (HS5.out.kp hk6 (by have:=HG.out;omega));have HJ0:=qK hj;clear hk6 HK5 HZ5 HS5 HP5 hj;cases hit:yZ7 0 (s.drop j) with
    | none=>
      rw[hit] at h;obtain⟨k,rfl⟩:=h;exact⟨rfl,none,HSP.out _ (HSt5.out _ (.fail (by unfold zL7;rw[hit]))),HK6.out,j6,hj6,hP6,k,rfl⟩
    | some q=>
      obtain⟨lo,t⟩:=q;rw[hit] at h;obtain⟨rfl,ht,hlo⟩:=h;have HR6:=qK (show yZ7 0 (s.drop j)=some (lo,s.drop j6) from by rw[hit,ht]);clear hit ht;have hN6:=zU1 b s j6;have HD6:=qK (fun h=>@zW8 s j6 h);have HL6:=qK (@zP8 s j6);have HH6:=qK (zW7 s j6);generalize zU0 s j6=c6 at hN6 HD6 HL6 HH6;go_wp2_with fail
      refine(hN6 w6 hP6 hs hj6).mono ?_;rintro e wy ⟨rfl,hb7⟩;have HPy:=qK (show PB wy b s j6 from(show Blk _ _ _ _ from hP6).keep hb7);have HKy:=qK (HK6.out.below hb7);have HZy:=qK (HZ6.out.keep hb7);have HSy:=qK (HS6.out.keep hb7);clear hb7 HK6 HZ6 HS6 hP6 hN6;by_cases h45:c6=45
      case' neg=>
       have n45:¬ ((c6.toNat:Int)=45):=fun h=>h45 (by apply UInt8.toNat_inj.1;exact_mod_cast h);obtain⟨jn,hjn⟩:∃ jn,j6=jn:=⟨_,rfl⟩;have HRn:=qK (show zL7 (s.drop j)=some (s.drop jn) from by
        unfold zL7;rw[HR6.out,←hjn];refine if_neg fun h=>h45 ?_;have h2:=HH6.out;rw[h] at h2;exact h2)
       have HJn:=qK (show jn≤s.length from hjn▸hj6);have HPn:=qK (show PB wy b s jn from hjn▸HPy.out);have HKn:=HKy;have HZn:=HZy;have HSn:=HSy;have hhi:=hlo;clear HD6 HL6 HH6 HR6 hj6 h45 hjn HPy HKy HZy HSy
      case' pos=>
       subst h45;have hjl:=HL6.out (by decide);obtain⟨j7,hj7⟩:∃ j7,j6+1=j7:=⟨_,rfl⟩;have p1:IntKind.i64.wrap ((j6:Int)+1)=(j7:Int):=by simp[IntKind.wrap,IntKind.bits,IntKind.signed];omega
       have hj7l:j7≤s.length:=by omega
       have HD7:=qK (show s.drop j6=45 ::s.drop j7 from by rw[HD6.out hjl,hj7]);have HPz:=qK (HPy.out.at_ j7);obtain⟨x0,x1,f1⟩:=HPy.out.cells;clear hj7 hjl HL6 HD6 HH6;go_upto_region 16 with fail
       generalize wy.setCell ⟨b,1,none⟩ (.int .i64 (j7:Nat))=wz at HPz ⊢;clear x0 x1 f1 p1;go_wp2_with fail
       refine(yF6 b s j7 lo _ _ (Kp.refl _ _) HPz.out.1 hs hj7l).mono ?_;rintro e wy ⟨hk8,jn,hjn,hPn,h⟩;have hkx:=HPz.out.2.trans hk8;have HKn:=qK (HKy.out.trans hkx);have HZn:=qK (hkx.blk HZy.out (by have:=HG.out;omega));have HSn:=qK (HSy.out.kp hkx (by have:=HG.out;omega));clear hk8 hkx HPz HPy HKy HZy HSy;rcases hit:yZ7 lo (s.drop j7) with _ | ⟨hi,t⟩
       ·rw[hit] at h;obtain⟨k,rfl⟩:=h;exact⟨rfl,none,HSP.out _ (HSt5.out _ (.fail (by unfold zL7;rw[HR6.out,HD7.out];simp[hit]))),HKn.out,jn,hjn,hPn,k,rfl⟩
       rw[hit] at h;obtain⟨rfl,ht,hhi⟩:=h;have HRn:=qK (show zL7 (s.drop j)=some (s.drop jn) from by unfold zL7;rw[HR6.out,HD7.out];simp[hit,ht]);have HPn:=qK hPn;have HJn:=qK hjn;clear hit ht hPn hjn HR6 HD7 hj7l
      all_goals
       obtain⟨sa,sb,sc,sd,hS0⟩:=HSn.out;have HS0:=qK hS0;obtain⟨k0,k1,k2,k3⟩:=setC hS0;have hg4:g4 < wy.heap.size:=hS0.lt;clear hS0 HSn;go_upto_region 17 with fail
       apply zZ5 qF [isv _,isv _,isv _,(fun v _=>∃ a b c d:Int,v=.agg #[.int .u64 a,.int .u64 b,.int .u64 c,.int .u64 d]),(fun v _=>∃ a b c d:Int,v=.agg #[.int .u64 a,.int .u64 b,.int .u64 c,.int .u64 d])] wy.heap.size wy qJ qH.drew qF qF qF qF qF (qC (qC (qC (qA (fun _ _ _ h _=>h) (qA (fun _ _ _ h _=>h) trivial))))) ?steps (by rfl) _ rfl rfl ?fin;case steps=>
        refine qA ?_ ?_
        ·intro AA W KK QQ hB hs hd hl hk;have sl4:=hs 4 _ qF rfl;clear hs hd hl;have hx0:=hB.cell (p:=⟨g4,0,none⟩) hg4;have hx1:=hB.cell (p:=⟨g4,1,none⟩) hg4;have hx2:=hB.cell (p:=⟨g4,2,none⟩) hg4;have hx3:=hB.cell (p:=⟨g4,3,none⟩) hg4;rw[k0] at hx0;rw[k1] at hx1;rw[k2] at hx2;rw[k3] at hx3;go_simp;exact hk _ _ rfl qH
        refine qA (qS 6) (qA (qS 7) (qA ?_ ?_))
        ·intro AA W KK QQ hB hs hd hl hk;obtain⟨_,sl64,rfl⟩:=hd 1 64 qF rfl;obtain⟨_,sl65,rfl⟩:=hd 2 65 qF rfl;clear hs hd hl;go_simp;refine(zS7 lo _ W hlo hhi).mono ?_;rintro e W2 ⟨oa,ob,oc,od,rfl,hb2⟩;exact hk _ _ ⟨oa,ob,oc,od,rfl⟩ hb2
        refine qA ?_ ?_
        ·intro AA W KK QQ hB hs hd hl hk;obtain⟨_,sl63,rfl⟩:=hd 0 63 qF rfl;obtain⟨_,sl66,⟨oa,ob,oc,od,rfl⟩⟩:=hd 3 66 qF rfl;clear hs hd hl;go_simp;refine(zK3 sa sb sc sd oa ob oc od W).mono ?_;rintro e W2 ⟨pa,pb,pc,pd,rfl,hb2⟩;exact hk _ _ ⟨pa,pb,pc,pd,rfl⟩ hb2
        exact trivial
       case fin=>
        intro wf hB GG hGG
        iterate 3 refine qN ?_
        refine zZ4 66 rfl ?_;rintro _ ⟨_,_,_,_,rfl⟩;refine zZ4 67 rfl ?_;rintro _ ⟨pa,pb,pc,pd,rfl⟩;refine zM2 hGG ?_;have hX:=HS0.out.keep hB;obtain⟨q0,q1,q2,q3⟩:=setF hX;obtain⟨z0,z1,z2,z3⟩:=setC hX;obtain⟨h4,hk4⟩:=res4 hX (.int .u64 pa) (.int .u64 pb) (.int .u64 pc) (.int .u64 pd);have HSc:=qK h4;have HPc:=qK (show PB _ b s jn from hk4.blk ((show Blk _ _ _ _ from HPn.out).keep hB) (by have:=HG.out;omega));have HKc:=qK ((HKn.out.below hB).trans2 hk4 fun i hi e=>by have:=HG.out;omega);have HZc:=qK (hk4.blk (HZn.out.keep hB) (by have:=HG.out;omega));have HSt8:=qK (show StP (s.drop i0) (s.drop jn) false from⟨fun t ht=>HSt5.out _ (.stop (by rw[HRn.out,ht])),fun hne O hO=>HSt5.out _ (.go HRn.out hne hO)⟩);have HM:=qK (show s.length-jn < s.length-j from by
         have h1:=zE7 HRn.out;have h2:=HJn.out;have h3:=HJ0.out;rw[List.length_drop,List.length_drop] at h1;omega)
        clear hX h4 hk4 hB hGG k0 k1 k2 k3 hg4;go_simp;clear z0 z1 z2 z3 q0 q1 q2 q3;go_wp2;go_roundw
        case rel=>exact⟨false,jn,rfl,HJn.out,HPc,HKc,HZc,qK (show SetAt _ g4 from⟨pa,pb,pc,pd,HSc.out⟩),HSt8⟩
        case measure=>
         show s.length-atV b _ < s.length-atV b _;rw[HPc.out.atV,HPr.out.atV];exact HM.out
end Go.Proofs.YtdgehhgjgifikaaGreatDoor
