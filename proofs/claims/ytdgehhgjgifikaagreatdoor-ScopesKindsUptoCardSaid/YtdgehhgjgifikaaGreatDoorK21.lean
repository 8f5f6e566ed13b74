/- What the claim needs of:SX SZ SY. -/
import Derived.Test.YtdgehhgjgifikaaGreatDoorK20
import Derived.Deep.DeepCutAuto
import Derived.Deep.CutRange
import Derived.Shelf.SlSortCmp.PdqK
namespace Go.Proofs.YtdgehhgjgifikaaGreatDoor
open Go.RowKit Go.Sort Go.Shelf
theorem cr_rot {α:Type} [Inhabited α] {ix:α→Nat}{d d1:Array α}{a m b s e mid:Nat}(h:Cr ix d a m b)(hr:Rot d d1 s m e)(has:a≤s)(hsm:s≤m)(hme:m≤e)(heb:e≤b)(hmid:s+(e-m)=mid):Cr ix d1 a s mid∧Cr ix d1 mid e b:=by
 subst hmid;refine⟨fun i j h1 h2 h3 h4=>?_,fun i j h1 h2 h3 h4=>?_⟩
 ·rw[hr.2 i,if_neg qG,if_neg qG,hr.2 j,if_pos ⟨h3,h4⟩];exact h i _ h1 qG qG qG
 ·rw[hr.2 i,if_neg qG,if_pos ⟨h1,h2⟩,hr.2 j,if_neg qG,if_neg qG];exact h _ j qG qG qG h4
theorem Rot.still {α:Type} [Inhabited α] {d:Array α}{s m e:Nat}(h:s=m∨e=m):Rot d d s m e:=⟨rfl,fun x=>by
 by_cases h1:s≤x∧x < s+(e-m)
 ·rw[if_pos h1];congr 1;omega
 ·rw[if_neg h1];by_cases h2:s+(e-m)≤x∧x < e
  ·rw[if_pos h2];congr 1;omega
  ·rw[if_neg h2]⟩
def In1 (d:Array UG)(a m b i j:Nat):Prop:=(i=m∨ltG d[i-1]! d[a]! = true)∧(j=b∨ltG d[j]! d[a]! = false)
def In2 (d:Array UG)(a m i j:Nat):Prop:=(i=a∨ltG d[m]! d[i-1]! = false)∧(j=m∨ltG d[m]! d[j]! = true)
def In3 (d:Array UG)(a m b md p i j:Nat):Prop:=(i=a∨md+m=i+b∨ltG d[md+m-i]! d[i-1]! = false)∧(j=m∨j=md∨ltG d[p-j]! d[j]! = true)
theorem zB9 {d:Array UG}{x y z:Nat}(h1:SortedIn ltG x y d)(h2:SortedIn ltG y z d)(hn:¬ (x < y∧y < z))(h:x≤y)(h':y≤z):SortedIn ltG x z d:=by
 by_cases q:x < y
 ·have:y=z:=by omega
  subst this;exact h1
 ·have:x=y:=by omega
  subst this;exact h2
set_option maxRecDepth 100000 in
set_option maxHeartbeats 16000000 in
theorem yR2 (g:Nat)(eg:∀ args w,(callFunc g args).run Tryz.prog w=.ok (.enter g args) w)(hcmp:∀ x y W,Calls Tryz.prog g #[.agg (encG x).toArray,.agg (encG y).toArray] W fun e w'=>e=.returned (.int .i64 (cfG x y))∧BelowD W.heap.size W w')
  (blk off cap:Nat)(d0:Array UG)(w0:World)(R:RowK encG 5 w0 blk off d0)(hsz:d0.size≤1048576)
  (a m b:Nat)(d:Array UG)(w:World)(S:SWI w0 blk off d w)(hs:d.size=d0.size)(ham:a < m)(hmb:m < b)(hb:b≤d0.size)(s1:SortedIn ltG a m d)(s2:SortedIn ltG m b d)(cr:Cr ixG d a m b)(c1:m≤a+1) :
  Calls Tryz.prog 115 #[.slice (some ⟨blk,off,none⟩) d0.size cap,.int .i64 a,.int .i64 m,.int .i64 b,.func (.func g) #[] #[]] w fun e w'=>e=.returned (.tuple #[])∧∃ d',d'.size=d0.size∧SortedIn ltG a b d'∧PermIn a b d d'∧SWI w0 blk off d' w':=by
 have HC:Hid (CmpLays Tryz.prog g #[] encG 5 cfG blk off d0.size w0):=fun m os dk _ x y=>(hcmp x y _).mono fun e w' ⟨h1,h2⟩=>⟨h1,zS6 h2⟩;clear hcmp;have HS0:=qK S;have mixed:=Tryz.insU.mixed;have H1:=qK s1;have H2:=qK s2;have HCr:=qK cr;clear S s1 s2 cr;have wma:IntKind.i64.wrap ((m:Int)-(a:Int))=(m:Int)-(a:Int):=by rw[IntKind.wrap_i64];omega
 have wbm:IntKind.i64.wrap ((b:Int)-(m:Int))=(b:Int)-(m:Int):=by rw[IntKind.wrap_i64];omega
 have c1d:decide ((m:Int)-(a:Int)=1)=true:=decide_eq_true qG;have c1b:((m:Int)-(a:Int) == 1)=true:=by rw[beq_iff_eq];omega
 have c1e:(m:Int)-(a:Int)=1:=by omega
 go_enter Tryz.func115,Tryz.ntmps115
 go_wp2;go_loopw [10,11] (fun vi vj wr=>∃ i j:Nat,vi=.int .i64 (i:Nat)∧vj=.int .i64 (j:Nat)∧m≤i∧i≤j∧j≤b∧Hid (In1 d a m b i j)∧Hid (SWI w0 blk off d wr)) (fun vi vj _=>(intOf vj).toNat-(intOf vi).toNat)
 case atStart=>exact⟨m,b,rfl,rfl,Nat.le_refl _,by omega,Nat.le_refl _,qK ⟨.inl rfl,.inl rfl⟩,HS0⟩
 case round=>
  obtain⟨i,j,rfl,rfl,hmi,hij,hjb,HI,HS⟩:=hrel;by_cases hlt:i < j
  ·have hlt':(i:Int) < (j:Int):=by omega
   have had:(a:Int) < (d0.size:Int):=by omega
   have ha0:(0:Int)≤(a:Int):=by omega
   obtain⟨h,hh⟩:∃ h:Nat,h=(i+j) / 2:=⟨_,rfl⟩;have hhI:((i:Int)+(j:Int)) / 2=(h:Int):=by omega
   have hih:i≤h:=by omega
   have hhj:h < j:=by omega
   clear hh;have hwh:IntKind.i64.wrap ((h:Int)+1)=(h:Int)+1:=by rw[IntKind.wrap_i64];omega
   have hh0:(0:Int)≤(h:Int):=by omega
   have hhd:(h:Int) < (d0.size:Int):=by omega
   by_cases hv:cfG d[h]! d[a]! < 0
   ·have HN:=qK (show In1 d a m b (h+1) j from⟨.inr (ltG_t (HCr.out a h qJ ham qG qG) hv),HI.out.2⟩);have lx0:=fun n os=>(zZ1 R (HS.out.grown n os) hs (i:=h) qG).1;have lx1:=fun n os=>(zZ1 R (HS.out.grown n os) hs (i:=h) qG).2.1;have lx2:=fun n os=>(zZ1 R (HS.out.grown n os) hs (i:=h) qG).2.2.1;have lx3:=fun n os=>(zZ1 R (HS.out.grown n os) hs (i:=h) qG).2.2.2.1;have lx4:=fun n os=>(zZ1 R (HS.out.grown n os) hs (i:=h) qG).2.2.2.2.1;have ly0:=fun n os=>(zZ1 R (HS.out.grown n os) hs (i:=a) qG).1;have ly1:=fun n os=>(zZ1 R (HS.out.grown n os) hs (i:=a) qG).2.1;have ly2:=fun n os=>(zZ1 R (HS.out.grown n os) hs (i:=a) qG).2.2.1;have ly3:=fun n os=>(zZ1 R (HS.out.grown n os) hs (i:=a) qG).2.2.2.1;have ly4:=fun n os=>(zZ1 R (HS.out.grown n os) hs (i:=a) qG).2.2.2.2.1;have hc:=HS.out.cmp HC.out hs d[h]! d[a]!;generalize d[h]! = XX at lx0 lx1 lx2 lx3 lx4 hc hv;generalize d[a]! = YY at ly0 ly1 ly2 ly3 ly4 hc hv;have hvd:decide (cfG XX YY < 0)=true:=decide_eq_true hv;go_wp2_with fail
    go_quiet_grown (first | (go_at_fn g;refine Calls.grown_of (hc _ _)))
    have S2:=qK (HS.out.grown nq osq);clear lx0 ly0 lx1 ly1 lx2 ly2 lx3 ly3 lx4 ly4 hc;generalize grow (wr.drewN nq) osq=w2 at S2 ⊢;clear nq osq;go_wp2;go_roundw
    case rel=>exact⟨h+1,j,by go_num,rfl,by omega,by omega,hjb,HN,S2⟩
    case measure=>simp[intOf];omega
   ·have HN:=qK (show In1 d a m b i h from⟨HI.out.1,.inr (ltG_f (HCr.out a h qJ ham qG qG) hv)⟩);have lx0:=fun n os=>(zZ1 R (HS.out.grown n os) hs (i:=h) qG).1;have lx1:=fun n os=>(zZ1 R (HS.out.grown n os) hs (i:=h) qG).2.1;have lx2:=fun n os=>(zZ1 R (HS.out.grown n os) hs (i:=h) qG).2.2.1;have lx3:=fun n os=>(zZ1 R (HS.out.grown n os) hs (i:=h) qG).2.2.2.1;have lx4:=fun n os=>(zZ1 R (HS.out.grown n os) hs (i:=h) qG).2.2.2.2.1;have ly0:=fun n os=>(zZ1 R (HS.out.grown n os) hs (i:=a) qG).1;have ly1:=fun n os=>(zZ1 R (HS.out.grown n os) hs (i:=a) qG).2.1;have ly2:=fun n os=>(zZ1 R (HS.out.grown n os) hs (i:=a) qG).2.2.1;have ly3:=fun n os=>(zZ1 R (HS.out.grown n os) hs (i:=a) qG).2.2.2.1;have ly4:=fun n os=>(zZ1 R (HS.out.grown n os) hs (i:=a) qG).2.2.2.2.1;have hc:=HS.out.cmp HC.out hs d[h]! d[a]!;generalize d[h]! = XX at lx0 lx1 lx2 lx3 lx4 hc hv;generalize d[a]! = YY at ly0 ly1 ly2 ly3 ly4 hc hv;have hvd:decide (cfG XX YY < 0)=false:=decide_eq_false hv;go_wp2_with fail
    go_quiet_grown (first | (go_at_fn g;refine Calls.grown_of (hc _ _)))
    have S2:=qK (HS.out.grown nq osq);clear lx0 ly0 lx1 ly1 lx2 ly2 lx3 ly3 lx4 ly4 hc;generalize grow (wr.drewN nq) osq=w2 at S2 ⊢;clear nq osq;go_wp2;go_roundw
    case rel=>exact⟨i,h,rfl,rfl,hmi,hih,by omega,HN,S2⟩
    case measure=>simp[intOf];omega
  ·have hji:j=i:=by omega
   subst hji;have hlt':¬ (j:Int) < (j:Int):=by omega
   obtain⟨q,hq⟩:∃ q,q+1=j:=⟨j-1,by omega⟩;have hqa:a≤q:=by omega
   have hqb:q < b:=by omega
   have wq:IntKind.i64.wrap ((j:Int)-1)=(q:Int):=by rw[IntKind.wrap_i64];omega
   have HQ:=qK (show (q=a∨ltG d[q]! d[a]! = true)∧(q+1=b∨ltG d[q+1]! d[a]! = false) from⟨HI.out.1.elim (fun e=>.inl qG) (fun e=>.inr (by rw[←hq] at e;exact e)),by rw[hq];exact HI.out.2⟩);clear HI hq;go_wp2;go_loopw [13] (fun vk wr=>∃ (k:Nat) (dk:Array UG),vk=.int .i64 (k:Nat)∧a≤k∧k≤q∧dk.size=d0.size∧Hid (ShR d dk a k∧PermIn a b d dk)∧Hid (SWI w0 blk off dk wr)) (fun vk _=>q-(intOf vk).toNat)
   case atStart=>exact⟨a,d,rfl,Nat.le_refl _,hqa,hs,qK ⟨ShR.start d a,permIn_refl _ _ _⟩,HS⟩
   case round=>
    obtain⟨k,dk,rfl,hak,hkq,hds,HP,HS2⟩:=hrel;by_cases hkl:k < q
    ·have hkl':(k:Int) < (q:Int):=by omega
     have wk:IntKind.i64.wrap ((k:Int)+1)=(k:Int)+1:=by rw[IntKind.wrap_i64];omega
     have eI:((k:Int)).toNat=k:=by omega
     have pI:(0:Int)≤(k:Int):=by omega
     have bI:(k:Int) < (d0.size:Int):=by omega
     have eJ:((k:Int)+1).toNat=k+1:=by omega
     have pJ:(0:Int)≤(k:Int)+1:=by omega
     have bJ:(k:Int)+1 < (d0.size:Int):=by omega
     have S9:=qK (yR1 R HS2.out (k) (k+1) qG qG);obtain⟨xi0,xi1,xi2,xi3,xi4,xi5,xi6,xi7,xi8,xi9⟩:=zZ1 R HS2.out hds (i:=k) qG;obtain⟨xj0,xj1,xj2,xj3,xj4,xj5,xj6,xj7,xj8,xj9⟩:=zZ1 R HS2.out hds (i:=k+1) qG;generalize dk[k]! = XI at S9 xi0 xi1 xi2 xi3 xi4;generalize dk[k+1]! = XJ at S9 xj0 xj1 xj2 xj3 xj4;go_wp2_with fail
     go_big_region_o
     clear xi0 xj0 xi1 xj1 xi2 xj2 xi3 xj3 xi4 xj4 xi5 xj5 xi6 xj6 xi7 xj7 xi8 xj8 xi9 xj9 eI pI bI eJ pJ bJ;all_goals go_wp2
     go_roundw
     case rel=>exact⟨k+1,_,by go_num,by omega,by omega,by rw[size_swp];exact hds,qK ⟨HP.out.1.step hak qG,permIn_trans _ _ _ _ _ HP.out.2 (swp_permIn _ _ _ _ _ qG qG qG qG qG)⟩,S9⟩
     case measure=>simp[intOf];omega
    ·have hkq':k=q:=by omega
     subst hkq';have hkl':¬ (k:Int) < (k:Int):=by omega
     go_wp2;first | go_end0 | refine bodyPost_ret (results_none rfl _ _ _) rfl ?_
     exact⟨rfl,dk,hds,HP.out.1.sorted yR0 hqa hqb ((show m=a+1 by omega)▸H2.out) HQ.out.1 HQ.out.2,HP.out.2,HS2.out⟩
set_option maxRecDepth 100000 in
set_option maxHeartbeats 16000000 in
theorem yR3 (g:Nat)(eg:∀ args w,(callFunc g args).run Tryz.prog w=.ok (.enter g args) w)(hcmp:∀ x y W,Calls Tryz.prog g #[.agg (encG x).toArray,.agg (encG y).toArray] W fun e w'=>e=.returned (.int .i64 (cfG x y))∧BelowD W.heap.size W w')
  (blk off cap:Nat)(d0:Array UG)(w0:World)(R:RowK encG 5 w0 blk off d0)(hsz:d0.size≤1048576)
  (a m b:Nat)(d:Array UG)(w:World)(S:SWI w0 blk off d w)(hs:d.size=d0.size)(_ham:a < m)(hmb:m < b)(hb:b≤d0.size)(s1:SortedIn ltG a m d)(s2:SortedIn ltG m b d)(cr:Cr ixG d a m b)(c1:¬ m≤a+1)(c2:b≤m+1) :
  Calls Tryz.prog 115 #[.slice (some ⟨blk,off,none⟩) d0.size cap,.int .i64 a,.int .i64 m,.int .i64 b,.func (.func g) #[] #[]] w fun e w'=>e=.returned (.tuple #[])∧∃ d',d'.size=d0.size∧SortedIn ltG a b d'∧PermIn a b d d'∧SWI w0 blk off d' w':=by
 have HC:Hid (CmpLays Tryz.prog g #[] encG 5 cfG blk off d0.size w0):=fun m os dk _ x y=>(hcmp x y _).mono fun e w' ⟨h1,h2⟩=>⟨h1,zS6 h2⟩;clear hcmp;have HS0:=qK S;have mixed:=Tryz.insU.mixed;have H1:=qK s1;have H2:=qK s2;have HCr:=qK cr;clear S s1 s2 cr;have wma:IntKind.i64.wrap ((m:Int)-(a:Int))=(m:Int)-(a:Int):=by rw[IntKind.wrap_i64];omega
 have wbm:IntKind.i64.wrap ((b:Int)-(m:Int))=(b:Int)-(m:Int):=by rw[IntKind.wrap_i64];omega
 have c1d:decide ((m:Int)-(a:Int)=1)=false:=decide_eq_false qG;have c1b:((m:Int)-(a:Int) == 1)=false:=by rw[beq_eq_false_iff_ne];omega
 have c1e:¬ (m:Int)-(a:Int)=1:=by omega
 have c2d:decide ((b:Int)-(m:Int)=1)=true:=decide_eq_true qG;have c2b:((b:Int)-(m:Int) == 1)=true:=by rw[beq_iff_eq];omega
 have c2e:(b:Int)-(m:Int)=1:=by omega
 go_enter Tryz.func115,Tryz.ntmps115
 go_wp2;go_loopw [14,15] (fun vi vj wr=>∃ i j:Nat,vi=.int .i64 (i:Nat)∧vj=.int .i64 (j:Nat)∧a≤i∧i≤j∧j≤m∧Hid (In2 d a m i j)∧Hid (SWI w0 blk off d wr)) (fun vi vj _=>(intOf vj).toNat-(intOf vi).toNat)
 case atStart=>exact⟨a,m,rfl,rfl,Nat.le_refl _,by omega,Nat.le_refl _,qK ⟨.inl rfl,.inl rfl⟩,HS0⟩
 case round=>
  obtain⟨i,j,rfl,rfl,hmi,hij,hjb,HI,HS⟩:=hrel;by_cases hlt:i < j
  ·have hlt':(i:Int) < (j:Int):=by omega
   have had:(m:Int) < (d0.size:Int):=by omega
   have ha0:(0:Int)≤(m:Int):=by omega
   obtain⟨h,hh⟩:∃ h:Nat,h=(i+j) / 2:=⟨_,rfl⟩;have hhI:((i:Int)+(j:Int)) / 2=(h:Int):=by omega
   have hih:i≤h:=by omega
   have hhj:h < j:=by omega
   clear hh;have hwh:IntKind.i64.wrap ((h:Int)+1)=(h:Int)+1:=by rw[IntKind.wrap_i64];omega
   have hh0:(0:Int)≤(h:Int):=by omega
   have hhd:(h:Int) < (d0.size:Int):=by omega
   by_cases hv:cfG d[m]! d[h]! < 0
   ·have HN:=qK (show In2 d a m i h from⟨HI.out.1,.inr (ltG_t (HCr.out h m qG qG qJ hmb) hv)⟩);have lx0:=fun n os=>(zZ1 R (HS.out.grown n os) hs (i:=m) qG).1;have lx1:=fun n os=>(zZ1 R (HS.out.grown n os) hs (i:=m) qG).2.1;have lx2:=fun n os=>(zZ1 R (HS.out.grown n os) hs (i:=m) qG).2.2.1;have lx3:=fun n os=>(zZ1 R (HS.out.grown n os) hs (i:=m) qG).2.2.2.1;have lx4:=fun n os=>(zZ1 R (HS.out.grown n os) hs (i:=m) qG).2.2.2.2.1;have ly0:=fun n os=>(zZ1 R (HS.out.grown n os) hs (i:=h) qG).1;have ly1:=fun n os=>(zZ1 R (HS.out.grown n os) hs (i:=h) qG).2.1;have ly2:=fun n os=>(zZ1 R (HS.out.grown n os) hs (i:=h) qG).2.2.1;have ly3:=fun n os=>(zZ1 R (HS.out.grown n os) hs (i:=h) qG).2.2.2.1;have ly4:=fun n os=>(zZ1 R (HS.out.grown n os) hs (i:=h) qG).2.2.2.2.1;have hc:=HS.out.cmp HC.out hs d[m]! d[h]!;generalize d[m]! = XX at lx0 lx1 lx2 lx3 lx4 hc hv;generalize d[h]! = YY at ly0 ly1 ly2 ly3 ly4 hc hv;have hvd:decide (cfG XX YY < 0)=true:=decide_eq_true hv;go_wp2_with fail
    go_quiet_grown (first | (go_at_fn g;refine Calls.grown_of (hc _ _)))
    have S2:=qK (HS.out.grown nq osq);clear lx0 ly0 lx1 ly1 lx2 ly2 lx3 ly3 lx4 ly4 hc;generalize grow (wr.drewN nq) osq=w2 at S2 ⊢;clear nq osq;go_wp2;go_roundw
    case rel=>exact⟨i,h,rfl,rfl,hmi,hih,by omega,HN,S2⟩
    case measure=>simp[intOf];omega
   ·have HN:=qK (show In2 d a m (h+1) j from⟨.inr (ltG_f (HCr.out h m qG qG qJ hmb) hv),HI.out.2⟩);have lx0:=fun n os=>(zZ1 R (HS.out.grown n os) hs (i:=m) qG).1;have lx1:=fun n os=>(zZ1 R (HS.out.grown n os) hs (i:=m) qG).2.1;have lx2:=fun n os=>(zZ1 R (HS.out.grown n os) hs (i:=m) qG).2.2.1;have lx3:=fun n os=>(zZ1 R (HS.out.grown n os) hs (i:=m) qG).2.2.2.1;have lx4:=fun n os=>(zZ1 R (HS.out.grown n os) hs (i:=m) qG).2.2.2.2.1;have ly0:=fun n os=>(zZ1 R (HS.out.grown n os) hs (i:=h) qG).1;have ly1:=fun n os=>(zZ1 R (HS.out.grown n os) hs (i:=h) qG).2.1;have ly2:=fun n os=>(zZ1 R (HS.out.grown n os) hs (i:=h) qG).2.2.1;have ly3:=fun n os=>(zZ1 R (HS.out.grown n os) hs (i:=h) qG).2.2.2.1;have ly4:=fun n os=>(zZ1 R (HS.out.grown n os) hs (i:=h) qG).2.2.2.2.1;have hc:=HS.out.cmp HC.out hs d[m]! d[h]!;generalize d[m]! = XX at lx0 lx1 lx2 lx3 lx4 hc hv;generalize d[h]! = YY at ly0 ly1 ly2 ly3 ly4 hc hv;have hvd:decide (cfG XX YY < 0)=false:=decide_eq_false hv;go_wp2_with fail
    go_quiet_grown (first | (go_at_fn g;refine Calls.grown_of (hc _ _)))
    have S2:=qK (HS.out.grown nq osq);clear lx0 ly0 lx1 ly1 lx2 ly2 lx3 ly3 lx4 ly4 hc;generalize grow (wr.drewN nq) osq=w2 at S2 ⊢;clear nq osq;go_wp2;go_roundw
    case rel=>exact⟨h+1,j,by go_num,rfl,by omega,by omega,hjb,HN,S2⟩
    case measure=>simp[intOf];omega
  ·have hji:j=i:=by omega
   subst hji;have hlt':¬ (j:Int) < (j:Int):=by omega
   have hja:a≤j:=hmi;go_wp2;go_loopw [17] (fun vk wr=>∃ (k:Nat) (dk:Array UG),vk=.int .i64 (k:Nat)∧j≤k∧k≤m∧dk.size=d0.size∧Hid (ShL d dk k m∧PermIn a b d dk)∧Hid (SWI w0 blk off dk wr)) (fun vk _=>(intOf vk).toNat)
   case atStart=>exact⟨m,d,rfl,hjb,Nat.le_refl _,hs,qK ⟨ShL.start d m,permIn_refl _ _ _⟩,HS⟩
   case round=>
    obtain⟨k,dk,rfl,hak,hkq,hds,HP,HS2⟩:=hrel;by_cases hkl:j < k
    ·have hkl':(j:Int) < (k:Int):=by omega
     obtain⟨q,hq⟩:∃ q,k=q+1:=⟨k-1,by omega⟩;have wk:IntKind.i64.wrap ((k:Int)-1)=(q:Int):=by rw[IntKind.wrap_i64];omega
     have HPq:=qK (show ShL d dk (q+1) m∧PermIn a b d dk from hq▸HP.out);have HQ:=qK hq;have hq1:q < k:=by omega
     have hq2:k≤q+1:=by omega
     clear HP hq;have eI:((k:Int)).toNat=k:=by omega
     have pI:(0:Int)≤(k:Int):=by omega
     have bI:(k:Int) < (d0.size:Int):=by omega
     have eJ:((q:Int)).toNat=q:=by omega
     have pJ:(0:Int)≤(q:Int):=by omega
     have bJ:(q:Int) < (d0.size:Int):=by omega
     have S9:=qK (yR1 R HS2.out (k) (q) qG qG);obtain⟨xi0,xi1,xi2,xi3,xi4,xi5,xi6,xi7,xi8,xi9⟩:=zZ1 R HS2.out hds (i:=k) qG;obtain⟨xj0,xj1,xj2,xj3,xj4,xj5,xj6,xj7,xj8,xj9⟩:=zZ1 R HS2.out hds (i:=q) qG;generalize dk[k]! = XI at S9 xi0 xi1 xi2 xi3 xi4;generalize dk[q]! = XJ at S9 xj0 xj1 xj2 xj3 xj4;go_wp2_with fail
     go_big_region_o
     clear xi0 xj0 xi1 xj1 xi2 xj2 xi3 xj3 xi4 xj4 xi5 xj5 xi6 xj6 xi7 xj7 xi8 xj8 xi9 xj9 eI pI bI eJ pJ bJ;all_goals go_wp2
     go_roundw
     case rel=>exact⟨q,_,by first | rfl | go_num,by omega,by omega,by rw[size_swp];exact hds,qK ⟨HQ.out▸HPq.out.1.step qG qG,permIn_trans _ _ _ _ _ HPq.out.2 (swp_permIn _ _ _ _ _ qG qG qG qG qG)⟩,S9⟩
     case measure=>simp[intOf];omega
    ·have hkq':k=j:=by omega
     subst hkq';have hkl':¬ (k:Int) < (k:Int):=by omega
     go_wp2;first | go_end0 | refine bodyPost_ret (results_none rfl _ _ _) rfl ?_
     exact⟨rfl,dk,hds,(show b=m+1 by omega)▸HP.out.1.sorted yR0 hja hjb H1.out HI.out.1 HI.out.2,HP.out.2,HS2.out⟩
set_option maxRecDepth 100000 in
set_option maxHeartbeats 16000000 in
theorem yR4 (g:Nat)(eg:∀ args w,(callFunc g args).run Tryz.prog w=.ok (.enter g args) w)(hcmp:∀ x y W,Calls Tryz.prog g #[.agg (encG x).toArray,.agg (encG y).toArray] W fun e w'=>e=.returned (.int .i64 (cfG x y))∧BelowD W.heap.size W w')
  (blk off cap:Nat)(d0:Array UG)(w0:World)(R:RowK encG 5 w0 blk off d0)(hsz:d0.size≤1048576)
  (a m b:Nat)(d:Array UG)(w:World)(S:SWI w0 blk off d w)(hs:d.size=d0.size)(_ham:a < m)(_hmb:m < b)(hb:b≤d0.size)(s1:SortedIn ltG a m d)(s2:SortedIn ltG m b d)(cr:Cr ixG d a m b)(c1:¬ m≤a+1)(c2:¬ b≤m+1)(IH:Hid (∀ (a' m' b':Nat)(d:Array UG)(w:World),b'-a' < b-a→SWI w0 blk off d w→d.size=d0.size→a' < m'→m' < b'→b'≤d0.size→SortedIn ltG a' m' d→SortedIn ltG m' b' d→Cr ixG d a' m' b'→
   Calls Tryz.prog 115 #[.slice (some ⟨blk,off,none⟩) d0.size cap,.int .i64 a',.int .i64 m',.int .i64 b',.func (.func g) #[] #[]] w fun e w'=>e=.returned (.tuple #[])∧∃ d',d'.size=d0.size∧SortedIn ltG a' b' d'∧PermIn a' b' d d'∧SWI w0 blk off d' w')) :
  Calls Tryz.prog 115 #[.slice (some ⟨blk,off,none⟩) d0.size cap,.int .i64 a,.int .i64 m,.int .i64 b,.func (.func g) #[] #[]] w fun e w'=>e=.returned (.tuple #[])∧∃ d',d'.size=d0.size∧SortedIn ltG a b d'∧PermIn a b d d'∧SWI w0 blk off d' w':=by
 have HC:Hid (CmpLays Tryz.prog g #[] encG 5 cfG blk off d0.size w0):=fun m os dk _ x y=>(hcmp x y _).mono fun e w' ⟨h1,h2⟩=>⟨h1,zS6 h2⟩;clear hcmp;have HS0:=qK S;have mixed:=Tryz.insU.mixed;have H1:=qK s1;have H2:=qK s2;have HCr:=qK cr;clear S s1 s2 cr;have wma:IntKind.i64.wrap ((m:Int)-(a:Int))=(m:Int)-(a:Int):=by rw[IntKind.wrap_i64];omega
 have wbm:IntKind.i64.wrap ((b:Int)-(m:Int))=(b:Int)-(m:Int):=by rw[IntKind.wrap_i64];omega
 have c1d:decide ((m:Int)-(a:Int)=1)=false:=decide_eq_false qG;have c1b:((m:Int)-(a:Int) == 1)=false:=by rw[beq_eq_false_iff_ne];omega
 have c1e:¬ (m:Int)-(a:Int)=1:=by omega
 have c2d:decide ((b:Int)-(m:Int)=1)=false:=decide_eq_false qG;have c2b:((b:Int)-(m:Int) == 1)=false:=by rw[beq_eq_false_iff_ne];omega
 have c2e:¬ (b:Int)-(m:Int)=1:=by omega
 obtain⟨md,hmd⟩:∃ md:Nat,md=(a+b) / 2:=⟨_,rfl⟩;have hmI:((a:Int)+(b:Int)) / 2=(md:Int):=by omega
 have hmd1:a+b≤2*md+1:=by omega
 have hmd2:2*md≤a+b:=by omega
 clear hmd;obtain⟨p,hp⟩:∃ p,p+1=md+m:=⟨md+m-1,by omega⟩;have wn:IntKind.i64.wrap ((md:Int)+(m:Int))=(md:Int)+(m:Int):=by rw[IntKind.wrap_i64];omega
 have wp:IntKind.i64.wrap ((md:Int)+(m:Int)-1)=(p:Int):=by rw[IntKind.wrap_i64];omega
 go_enter Tryz.func115,Tryz.ntmps115
 go_upto_if 140 with fail
 go_cut [20,21] from 138 to 146 (fun vs vr wx=>∃ st0 r0:Nat,vs=.int .i64 (st0:Nat)∧vr=.int .i64 (r0:Nat)∧a≤st0∧md+m≤st0+b∧st0≤r0∧r0≤m∧r0≤md∧Hid ((st0=a∨md+m=st0+b)∧(r0=m∨r0=md))∧wx=w)
 case first=>
  by_cases hmm:md < m
  ·have hmm':(md:Int) < (m:Int):=by omega
   obtain⟨sn,hsn⟩:∃ sn,sn+b=md+m:=⟨md+m-b,by omega⟩;have wsn:IntKind.i64.wrap ((md:Int)+(m:Int)-(b:Int))=(sn:Int):=by rw[IntKind.wrap_i64];omega
   go_wp2_with fail
   go_meet
   case rel=>exact⟨sn,md,rfl,rfl,by omega,by omega,by omega,by omega,Nat.le_refl _,qK ⟨.inr hsn.symm,.inr rfl⟩,rfl⟩
  ·have hmm':¬ (md:Int) < (m:Int):=by omega
   go_wp2_with fail
   go_meet
   case rel=>exact⟨a,m,rfl,rfl,Nat.le_refl _,by omega,by omega,Nat.le_refl _,by omega,qK ⟨.inl rfl,.inl rfl⟩,rfl⟩
 case rest=>
  obtain⟨st0,r0,rfl,rfl,hst1,hst2,hst3,hst4,hst5,HST,hwc⟩:=hcut;subst hwc;go_wp2_with fail
  go_loopw [20,21] (fun vs vr wr=>∃ s r:Nat,vs=.int .i64 (s:Nat)∧vr=.int .i64 (r:Nat)∧st0≤s∧s≤r∧r≤r0∧Hid (In3 d a m b md p s r)∧Hid (SWI w0 blk off d wr)) (fun vs vr _=>(intOf vr).toNat-(intOf vs).toNat)
  case atStart=>exact⟨st0,r0,rfl,rfl,Nat.le_refl _,hst3,Nat.le_refl _,qK ⟨HST.out.1.elim .inl (fun e=>.inr (.inl e)),HST.out.2.elim .inl (fun e=>.inr (.inl e))⟩,HS0⟩
  case round=>
   obtain⟨i,j,rfl,rfl,hsi,hij,hjr,HI,HS⟩:=hrel;by_cases hlt:i < j
   ·have hlt':(i:Int) < (j:Int):=by omega
    obtain⟨h,hh⟩:∃ h:Nat,h=(i+j) / 2:=⟨_,rfl⟩;have hhI:((i:Int)+(j:Int)) / 2=(h:Int):=by omega
    have hih:i≤h:=by omega
    have hhj:h < j:=by omega
    clear hh;have hwh:IntKind.i64.wrap ((h:Int)+1)=(h:Int)+1:=by rw[IntKind.wrap_i64];omega
    have hh0:(0:Int)≤(h:Int):=by omega
    have hhd:(h:Int) < (d0.size:Int):=by omega
    obtain⟨pc,hpc⟩:∃ pc,pc+h=p:=⟨p-h,by omega⟩;have wpc:IntKind.i64.wrap ((p:Int)-(h:Int))=(pc:Int):=by rw[IntKind.wrap_i64];omega
    have hpc0:(0:Int)≤(pc:Int):=by omega
    have hpcd:(pc:Int) < (d0.size:Int):=by omega
    have epc:p-h=pc:=by omega
    have epc2:md+m-(h+1)=pc:=by omega
    have HE:=qK (And.intro epc epc2);clear epc epc2;by_cases hv:cfG d[pc]! d[h]! < 0
    ·have HN:=qK (show In3 d a m b md p i h from⟨HI.out.1,.inr (.inr (by rw[HE.out.1];exact ltG_t (HCr.out h pc qG qG qG qG) hv))⟩);have lx0:=fun n os=>(zZ1 R (HS.out.grown n os) hs (i:=pc) qG).1;have lx1:=fun n os=>(zZ1 R (HS.out.grown n os) hs (i:=pc) qG).2.1;have lx2:=fun n os=>(zZ1 R (HS.out.grown n os) hs (i:=pc) qG).2.2.1;have lx3:=fun n os=>(zZ1 R (HS.out.grown n os) hs (i:=pc) qG).2.2.2.1;have lx4:=fun n os=>(zZ1 R (HS.out.grown n os) hs (i:=pc) qG).2.2.2.2.1;have ly0:=fun n os=>(zZ1 R (HS.out.grown n os) hs (i:=h) qG).1;have ly1:=fun n os=>(zZ1 R (HS.out.grown n os) hs (i:=h) qG).2.1;have ly2:=fun n os=>(zZ1 R (HS.out.grown n os) hs (i:=h) qG).2.2.1;have ly3:=fun n os=>(zZ1 R (HS.out.grown n os) hs (i:=h) qG).2.2.2.1;have ly4:=fun n os=>(zZ1 R (HS.out.grown n os) hs (i:=h) qG).2.2.2.2.1;have hc:=HS.out.cmp HC.out hs d[pc]! d[h]!;generalize d[pc]! = XX at lx0 lx1 lx2 lx3 lx4 hc hv;generalize d[h]! = YY at ly0 ly1 ly2 ly3 ly4 hc hv;have hvd:decide (cfG XX YY < 0)=true:=decide_eq_true hv;go_wp2_with fail
     go_quiet_grown (first | (go_at_fn g;refine Calls.grown_of (hc _ _)))
     have S2:=qK (HS.out.grown nq osq);clear lx0 ly0 lx1 ly1 lx2 ly2 lx3 ly3 lx4 ly4 hc;generalize grow (wr.drewN nq) osq=w2 at S2 ⊢;clear nq osq;go_wp2;go_roundw
     case rel=>exact⟨i,h,rfl,rfl,hsi,hih,by omega,HN,S2⟩
     case measure=>simp[intOf];omega
    ·have HN:=qK (show In3 d a m b md p (h+1) j from⟨.inr (.inr (by rw[HE.out.2];exact ltG_f (HCr.out h pc qG qG qG qG) hv)),HI.out.2⟩);have lx0:=fun n os=>(zZ1 R (HS.out.grown n os) hs (i:=pc) qG).1;have lx1:=fun n os=>(zZ1 R (HS.out.grown n os) hs (i:=pc) qG).2.1;have lx2:=fun n os=>(zZ1 R (HS.out.grown n os) hs (i:=pc) qG).2.2.1;have lx3:=fun n os=>(zZ1 R (HS.out.grown n os) hs (i:=pc) qG).2.2.2.1;have lx4:=fun n os=>(zZ1 R (HS.out.grown n os) hs (i:=pc) qG).2.2.2.2.1;have ly0:=fun n os=>(zZ1 R (HS.out.grown n os) hs (i:=h) qG).1;have ly1:=fun n os=>(zZ1 R (HS.out.grown n os) hs (i:=h) qG).2.1;have ly2:=fun n os=>(zZ1 R (HS.out.grown n os) hs (i:=h) qG).2.2.1;have ly3:=fun n os=>(zZ1 R (HS.out.grown n os) hs (i:=h) qG).2.2.2.1;have ly4:=fun n os=>(zZ1 R (HS.out.grown n os) hs (i:=h) qG).2.2.2.2.1;have hc:=HS.out.cmp HC.out hs d[pc]! d[h]!;generalize d[pc]! = XX at lx0 lx1 lx2 lx3 lx4 hc hv;generalize d[h]! = YY at ly0 ly1 ly2 ly3 ly4 hc hv;have hvd:decide (cfG XX YY < 0)=false:=decide_eq_false hv;go_wp2_with fail
     go_quiet_grown (first | (go_at_fn g;refine Calls.grown_of (hc _ _)))
     have S2:=qK (HS.out.grown nq osq);clear lx0 ly0 lx1 ly1 lx2 ly2 lx3 ly3 lx4 ly4 hc;generalize grow (wr.drewN nq) osq=w2 at S2 ⊢;clear nq osq;go_wp2;go_roundw
     case rel=>exact⟨h+1,j,by go_num,rfl,by omega,by omega,hjr,HN,S2⟩
     case measure=>simp[intOf];omega
   ·have hji:j=i:=by omega
    subst hji;have hlt':¬ (j:Int) < (j:Int):=by omega
    obtain⟨e,he⟩:∃ e,e+j=md+m:=⟨md+m-j,by omega⟩;have we:IntKind.i64.wrap ((md:Int)+(m:Int)-(j:Int))=(e:Int):=by rw[IntKind.wrap_i64];omega
    have q1:md+m-j=e:=by omega
    have q2:p-j=e-1:=by omega
    have CUT:Hid (SymCut ltG d a m b j e):=⟨by omega,by omega,by omega,by omega,
     HI.out.1.elim .inl fun h=>.inr (h.elim (fun h=>.inl qG) fun h=>.inr (by rw[q1] at h;exact h)),
     HI.out.2.elim (fun h=>.inr (.inl h)) fun h=>h.elim (fun h=>.inl qG) fun h=>.inr (.inr (by rw[q2] at h;exact h))⟩
    have hmde:j+(e-m)=md:=by omega
    have HMD:=qK hmde;have hae:a≤j:=by omega
    have hjm:j≤m:=by omega
    have hme:m≤e:=by omega
    have heb:e≤b:=by omega
    have hjmd:j≤md:=by omega
    have hmde':md≤e:=by omega
    clear q1 q2 hmde HI HST;generalize hwr:wr=wr' at HS ⊢;clear hwr;go_upto_region 39 with fail
    go_cut [185] from 185 to 185 (fun vc wx=>vc=.bool (decide (j < m∧m < e))∧wx=wr')
    case first=>
     by_cases q1:j < m
     ·have q1':(j:Int) < (m:Int):=by omega
      by_cases q2:m < e
      ·have q2':(m:Int) < (e:Int):=by omega
       go_wp2_with fail
       go_meet
       case rel=>exact⟨congrArg Value.bool (decide_eq_true (p:=j < m∧m < e) ⟨q1,q2⟩).symm,rfl⟩
      ·have q2':¬ (m:Int) < (e:Int):=by omega
       go_wp2_with fail
       go_meet
       case rel=>exact⟨congrArg Value.bool (decide_eq_false (p:=j < m∧m < e) fun h=>q2 h.2).symm,rfl⟩
     ·have q1':¬ (j:Int) < (m:Int):=by omega
      go_wp2_with fail
      go_meet
      case rel=>exact⟨congrArg Value.bool (decide_eq_false (p:=j < m∧m < e) fun h=>q1 h.1).symm,rfl⟩
    case rest=>
     obtain⟨hvc,hwc⟩:=hcut;subst hvc hwc;go_upto_if 185 with fail
     go_cut [] from 178 to 191 (fun wx=>∃ d1:Array UG,d1.size=d0.size∧Hid (Rot d d1 j m e∧PermIn a b d d1)∧Hid (SWI w0 blk off d1 wx))
     case first=>
      by_cases hr:j < m∧m < e
      ·have hrd:=decide_eq_true hr;have cR:=qK (yB1 blk off cap j m e d0 d (.func (.func g) #[] #[]) w0 _ R HS.out hs hr.1 hr.2 qG hsz);go_wp2_with fail
       refine cR.out.mono ?_;rintro e' w2 ⟨rfl,d1,h1,h2,h3⟩;have H31:=qK (And.intro h1 h2);have H33:=qK h3;clear h1 h2 h3 cR;go_wp2;go_meet
       case rel=>exact⟨d1,H31.out.1.1.trans hs,qK ⟨H31.out.1,permIn_mono _ _ _ _ _ _ qG qG qG H31.out.2⟩,H33⟩
      ·have hrd:=decide_eq_false hr;go_wp2_with fail
       go_meet
       case rel=>exact⟨d,hs,qK ⟨Rot.still qG,permIn_refl _ _ _⟩,HS⟩
     case rest=>
      obtain⟨d1,hs1,HR1,HS1⟩:=hcut;have HCC:=qK (cr_rot HCr.out HR1.out.1 hae hjm hme heb HMD.out);have HT:=qK (CUT.out.turned yR0 H1.out H2.out HR1.out.1 HMD.out.symm);clear HS CUT H1 H2 HCr;go_upto_region 41 with fail
      go_cut [199] from 199 to 199 (fun vc wx=>vc=.bool (decide (a < j∧j < md))∧wx=wc)
      case first=>
       by_cases q1:a < j
       ·have q1':(a:Int) < (j:Int):=by omega
        by_cases q2:j < md
        ·have q2':(j:Int) < (md:Int):=by omega
         go_wp2_with fail
         go_meet
         case rel=>exact⟨congrArg Value.bool (decide_eq_true (p:=a < j∧j < md) ⟨q1,q2⟩).symm,rfl⟩
        ·have q2':¬ (j:Int) < (md:Int):=by omega
         go_wp2_with fail
         go_meet
         case rel=>exact⟨congrArg Value.bool (decide_eq_false (p:=a < j∧j < md) fun h=>q2 h.2).symm,rfl⟩
       ·have q1':¬ (a:Int) < (j:Int):=by omega
        go_wp2_with fail
        go_meet
        case rel=>exact⟨congrArg Value.bool (decide_eq_false (p:=a < j∧j < md) fun h=>q1 h.1).symm,rfl⟩
      case rest=>
       obtain⟨hvc,hwc⟩:=hcut;subst hvc hwc;go_upto_if 199 with fail
       go_cut [] from 192 to 205 (fun wx=>∃ d2:Array UG,d2.size=d0.size∧Hid (PermIn a md d1 d2∧SortedIn ltG a md d2)∧Hid (SWI w0 blk off d2 wx))
       case first=>
        by_cases hr:a < j∧j < md
        ·have hrd:=decide_eq_true hr;have cR:=qK (IH.out a j md d1 _ qG HS1.out hs1 hr.1 hr.2 qG HT.out.1 HT.out.2.1 HCC.out.1);go_wp2_with fail
         refine cR.out.mono ?_;rintro e' w2 ⟨rfl,d2,h0,h1,h2,h3⟩;have H31:=qK (And.intro h2 h1);have H33:=qK h3;clear h1 h2 h3 cR;go_wp2;go_meet
         case rel=>exact⟨d2,h0,H31,H33⟩
        ·have hrd:=decide_eq_false hr;go_wp2_with fail
         go_meet
         case rel=>exact⟨d1,hs1,qK ⟨permIn_refl _ _ _,zB9 HT.out.1 HT.out.2.1 hr hae hjmd⟩,HS1⟩
       case rest=>
        obtain⟨d2,hs2,HR2,HS2⟩:=hcut;have HT3:=qK (show SortedIn ltG md e d2∧SortedIn ltG e b d2 from⟨fun x y hx hxy hy=>by rw[HR2.out.1.2.1 x qG,HR2.out.1.2.1 y qG];exact HT.out.2.2.1 x y hx hxy hy,fun x y hx hxy hy=>by rw[HR2.out.1.2.1 x qG,HR2.out.1.2.1 y qG];exact HT.out.2.2.2.1 x y hx hxy hy⟩);have HC2:=qK (HCC.out.2.kept HR2.out.1 (.inl qJ));clear HS1;have HEND:Hid (∀ d3:Array UG,PermIn md b d2 d3→SortedIn ltG md b d3→SortedIn ltG a b d3∧PermIn a b d d3):=fun d3 h2 s2=>by
         obtain⟨z1,z2⟩:=yC9 HR2.out.1 HR2.out.2 h2 s2 qG qG qG HT.out.2.2.2.2;exact⟨z1,permIn_trans _ _ _ _ _ HR1.out.2 z2⟩
        clear HT HR1 HR2;go_upto_region 43 with fail
        go_cut [213] from 213 to 213 (fun vc wx=>vc=.bool (decide (md < e∧e < b))∧wx=wc)
        case first=>
         by_cases q1:md < e
         ·have q1':(md:Int) < (e:Int):=by omega
          by_cases q2:e < b
          ·have q2':(e:Int) < (b:Int):=by omega
           go_wp2_with fail
           go_meet
           case rel=>exact⟨congrArg Value.bool (decide_eq_true (p:=md < e∧e < b) ⟨q1,q2⟩).symm,rfl⟩
          ·have q2':¬ (e:Int) < (b:Int):=by omega
           go_wp2_with fail
           go_meet
           case rel=>exact⟨congrArg Value.bool (decide_eq_false (p:=md < e∧e < b) fun h=>q2 h.2).symm,rfl⟩
         ·have q1':¬ (md:Int) < (e:Int):=by omega
          go_wp2_with fail
          go_meet
          case rel=>exact⟨congrArg Value.bool (decide_eq_false (p:=md < e∧e < b) fun h=>q1 h.1).symm,rfl⟩
        case rest=>
         obtain⟨hvc,hwc⟩:=hcut;subst hvc hwc;by_cases hr:md < e∧e < b
         ·have hrd:=decide_eq_true hr;have cR:=qK (IH.out md e b d2 _ qG HS2.out hs2 hr.1 hr.2 qG HT3.out.1 HT3.out.2 HC2.out);go_wp2_with fail
          refine cR.out.mono ?_;rintro e' w2 ⟨rfl,d3,h0,h1,h2,h3⟩;have H31:=qK (HEND.out d3 h2 h1);have H33:=qK h3;clear h1 h2 h3 cR;go_wp2;first | go_end0 | refine bodyPost_ret (results_none rfl _ _ _) rfl ?_
          exact⟨rfl,d3,h0,H31.out.1,H31.out.2,H33.out⟩
         ·have hrd:=decide_eq_false hr;have H31:=qK (HEND.out d2 (permIn_refl _ _ _) (zB9 HT3.out.1 HT3.out.2 hr hmde' heb));go_wp2;first | go_end0 | refine bodyPost_ret (results_none rfl _ _ _) rfl ?_
          exact⟨rfl,d2,hs2,H31.out.1,H31.out.2,HS2.out⟩
theorem yN8 (g:Nat)(eg:∀ args w,(callFunc g args).run Tryz.prog w=.ok (.enter g args) w)(hcmp:∀ x y W,Calls Tryz.prog g #[.agg (encG x).toArray,.agg (encG y).toArray] W fun e w'=>e=.returned (.int .i64 (cfG x y))∧BelowD W.heap.size W w')
  (blk off cap:Nat)(d0:Array UG)(w0:World)(R:RowK encG 5 w0 blk off d0)(hsz:d0.size≤1048576) :
  ∀ (N a m b:Nat) (d:Array UG) (w:World),b-a≤N→SWI w0 blk off d w→d.size=d0.size→a < m→m < b→b≤d0.size→SortedIn ltG a m d→SortedIn ltG m b d→Cr ixG d a m b→
    Calls Tryz.prog 115 #[.slice (some ⟨blk,off,none⟩) d0.size cap,.int .i64 a,.int .i64 m,.int .i64 b,.func (.func g) #[] #[]] w fun e w'=>e=.returned (.tuple #[])∧∃ d',d'.size=d0.size∧SortedIn ltG a b d'∧PermIn a b d d'∧SWI w0 blk off d' w':=by
 intro N;induction N with
 | zero=>intro a m b d w h _ _ h1 h2;omega
 | succ N ih=>
   intro a m b d w hN S hs ham hmb hb s1 s2 cr;by_cases c1:m≤a+1
   ·exact yR2 g eg hcmp blk off cap d0 w0 R hsz a m b d w S hs ham hmb hb s1 s2 cr c1
   by_cases c2:b≤m+1
   ·exact yR3 g eg hcmp blk off cap d0 w0 R hsz a m b d w S hs ham hmb hb s1 s2 cr c1 c2
   exact yR4 g eg hcmp blk off cap d0 w0 R hsz a m b d w S hs ham hmb hb s1 s2 cr c1 c2 (qK fun a' m' b' d w h=>ih a' m' b' d w qG)
def Bls (n bs:Nat)(d:Array UG):Prop:=∀ j,SortedIn ltG (j*bs) (min (j*bs+bs) n) d
def Mix (n bs t A:Nat)(d:Array UG):Prop:=A=t*(2*bs)∧(∀ j,j < t→SortedIn ltG (j*(2*bs)) (j*(2*bs)+2*bs) d)∧∀ j,2*t≤j→SortedIn ltG (j*bs) (min (j*bs+bs) n) d
theorem Mix.start {n bs:Nat}{d:Array UG}(h:Bls n bs d):Mix n bs 0 0 d:=⟨by omega,fun j hj=>by omega,fun j _=>h j⟩
theorem zQ3 (t bs:Nat):2*t*bs=t*(2*bs):=by rw[Nat.mul_comm 2 t,Nat.mul_assoc]
theorem Mix.left {n bs t A:Nat}{d:Array UG}(h:Mix n bs t A d):SortedIn ltG A (min (A+bs) n) d:=by
 have:=h.2.2 (2*t) qJ;rw[zQ3,←h.1] at this;exact this
theorem Mix.right {n bs t A:Nat}{d:Array UG}(h:Mix n bs t A d):SortedIn ltG (A+bs) (min (A+bs+bs) n) d:=by
 have:=h.2.2 (2*t+1) qG;rw[Nat.add_mul,zQ3,←h.1,Nat.one_mul] at this;exact this
theorem zQ8 {d d':Array UG}{a b x y:Nat}(p:PermIn a b d d')(h:SortedIn ltG x y d)(hn:y≤a∨b≤x):SortedIn ltG x y d':=fun i j hi hij hj=>by
 rw[p.2.1 i qG,p.2.1 j qG];exact h i j hi hij hj
theorem zA0 {j t q:Nat}(h:j < t):j*q+q≤t*q:=by
 have:=Nat.mul_le_mul_right q (show j+1≤t from h)
 rwa [Nat.add_mul,Nat.one_mul] at this
theorem Mix.next {n bs t A:Nat}{d d':Array UG}(h:Mix n bs t A d)(p:PermIn A (A+2*bs) d d')(s:SortedIn ltG A (A+2*bs) d'):Mix n bs (t+1) (A+2*bs) d':=by
 refine⟨by rw[Nat.add_mul,Nat.one_mul,←h.1],fun j hj=>?_,fun j hj=>?_⟩
 ·by_cases e:j=t
  ·subst e;rw[←h.1];exact s
  ·have:=zA0 (q:=2*bs) (show j < t by omega);rw[←h.1] at this;exact zQ8 p (h.2.1 j qG) (.inl this)
 ·have h1:=Nat.mul_le_mul_right bs (show 2*t+2≤j by omega);rw[Nat.add_mul,zQ3,←h.1] at h1;exact zQ8 p (h.2.2 j qG) (.inr h1)
theorem Mix.last {n bs t A:Nat}{d d':Array UG}(h:Mix n bs t A d)(hn:n < A+2*bs)(hA:A≤n)(p:PermIn A n d d')(s:SortedIn ltG A n d'):Bls n (2*bs) d':=by
 intro j;by_cases e:j=t
 ·subst e;rw[←h.1,Nat.min_eq_right qG];exact s
 ·by_cases hj:j < t
  ·have:=zA0 (q:=2*bs) hj;rw[←h.1] at this;rw[Nat.min_eq_left qG];exact zQ8 p (h.2.1 j hj) (.inl this)
  ·have:=zA0 (q:=2*bs) (show t < j by omega);rw[←h.1] at this;intro x y hx hxy hy;omega
theorem Bls.done {n bs:Nat}{d:Array UG}(h:Bls n bs d)(hn:n≤bs):SortedIn ltG 0 n d:=by
 have:=h 0;rw[Nat.zero_mul,Nat.zero_add,Nat.min_eq_right hn] at this;exact this
def Fst (t A:Nat)(d:Array UG):Prop:=A=t*20∧∀ j,j < t→SortedIn ltG (j*20) (j*20+20) d
theorem Fst.next {t A:Nat}{d d':Array UG}(h:Fst t A d)(p:PermIn A (A+20) d d')(s:SortedIn ltG A (A+20) d'):Fst (t+1) (A+20) d':=by
 refine⟨by have:=h.1;omega,fun j hj=>?_⟩;by_cases e:j=t
 ·subst e;rw[←h.1];exact s
 ·exact zQ8 p (h.2 j qG) (.inl (by have:=h.1;omega))
theorem Fst.last {n t A:Nat}{d d':Array UG}(h:Fst t A d)(hn:n < A+20)(hA:A≤n)(p:PermIn A n d d')(s:SortedIn ltG A n d'):Bls n 20 d':=by
 intro j;have h1:=h.1;by_cases e:j=t
 ·subst e;rw[←h.1,Nat.min_eq_right qG];exact s
 ·by_cases hj:j < t
  ·rw[Nat.min_eq_left qG];exact zQ8 p (h.2 j hj) (.inl qG)
  ·intro x y hx hxy hy;omega
def SepB (n bs:Nat)(d:Array UG):Prop:=∀ q,q*bs≤n→Sep ixG n d (q*bs)
def SepF (n t A:Nat)(d:Array UG):Prop:=A=t*20∧∀ p,(p % 20=0∨A≤p)→p≤n→Sep ixG n d p
def SepM (n bs t A:Nat)(d:Array UG):Prop:=A=t*(2*bs)∧(∀ q,q*(2*bs)≤n→Sep ixG n d (q*(2*bs)))∧∀ q,A≤q*bs→q*bs≤n→Sep ixG n d (q*bs)
theorem SepF.asc {n t A b:Nat}{d:Array UG}(h:SepF n t A d)(hb:b≤n):∀ z z',A≤z→z < z'→z' < b→ixG d[z]! < ixG d[z']!:=fun z z' h1 h2 h3=>h.2 z' (.inr qG) qG z z' h2 qJ qG
theorem SepF.next {n t A:Nat}{d d':Array UG}(h:SepF n t A d)(hn:n≤d.size)(hA:A+20≤n)(p:PermIn A (A+20) d d'):SepF n (t+1) (A+20) d':=by
 have hA':=h.1;refine⟨by omega,fun q hq hqn=>?_⟩;rcases hq with hq | hq
 ·exact(h.2 q (.inl hq) hqn).kept hn hA p qG
 ·exact(h.2 q (.inr qG) hqn).kept hn hA p (.inr hq)
theorem SepF.last {n t A:Nat}{d d':Array UG}(h:SepF n t A d)(hn:n≤d.size)(hA:A≤n)(hl:n < A+20)(p:PermIn A n d d'):SepB n 20 d':=fun q hq=>by
 have hA':=h.1;exact(h.2 (q*20) (.inl qG) hq).kept hn qJ p qG
theorem SepM.start {n bs:Nat}{d:Array UG}(h:SepB n bs d):SepM n bs 0 0 d:=⟨by omega,fun q hq=>by
 have:=h (2*q) (by rw[zQ3];exact hq)
 rwa [zQ3] at this,fun q _ hq=>h q hq⟩
theorem SepM.mid {n bs t A:Nat}{d:Array UG}(h:SepM n bs t A d)(hA:A+bs≤n):Sep ixG n d (A+bs):=by
 have e:(2*t+1)*bs=A+bs:=by rw[Nat.add_mul,zQ3,←h.1,Nat.one_mul]
 have:=h.2.2 (2*t+1) (by rw[e];omega) (by rw[e];exact hA)
 rwa [e] at this
theorem SepM.next {n bs t A:Nat}{d d':Array UG}(h:SepM n bs t A d)(hn:n≤d.size)(hA:A+2*bs≤n)(p:PermIn A (A+2*bs) d d'):SepM n bs (t+1) (A+2*bs) d':=by
 refine⟨by rw[Nat.add_mul,Nat.one_mul,←h.1],fun q hq=>(h.2.1 q hq).kept hn hA p ?_,fun q h1 h2=>(h.2.2 q qG h2).kept hn hA p (.inr h1)⟩;by_cases e:q≤t
 ·left;rw[h.1];exact Nat.mul_le_mul_right _ e
 ·right;have:=Nat.mul_le_mul_right (2*bs) (show t+1≤q by omega);rw[Nat.add_mul,Nat.one_mul,←h.1] at this;exact this
theorem SepM.last {n bs t A:Nat}{d d':Array UG}(h:SepM n bs t A d)(hn:n≤d.size)(hl:n < A+2*bs)(p:PermIn A n d d'):SepB n (2*bs) d':=fun q hq=>by
 refine(h.2.1 q hq).kept hn qJ p ?_;by_cases e:q≤t
 ·left;rw[h.1];exact Nat.mul_le_mul_right _ e
 ·have:=Nat.mul_le_mul_right (2*bs) (show t+1≤q by omega);rw[Nat.add_mul,Nat.one_mul,←h.1] at this;omega
set_option maxRecDepth 100000 in
set_option maxHeartbeats 8000000 in
theorem yJ2 (g:Nat)(eg:∀ args w,(callFunc g args).run Tryz.prog w=.ok (.enter g args) w)(hcmp:∀ x y W,Calls Tryz.prog g #[.agg (encG x).toArray,.agg (encG y).toArray] W fun e w'=>e=.returned (.int .i64 (cfG x y))∧BelowD W.heap.size W w')
  (blk off cap:Nat)(d0:Array UG)(w0:World)(R:RowK encG 5 w0 blk off d0)(hsz:d0.size≤1048576)(asc:∀ z z',z < z'→z' < d0.size→ixG d0[z]! < ixG d0[z']!) :
  Calls Tryz.prog 77 #[.slice (some ⟨blk,off,none⟩) d0.size cap,.int .i64 d0.size,.func (.func g) #[] #[]] w0 fun e w'=>e=.returned (.tuple #[])∧∃ d',d'.size=d0.size∧SortedIn ltG 0 d0.size d'∧PermIn 0 d0.size d0 d'∧SWI w0 blk off d' w':=by
 have cM:=qK (yN8 g eg hcmp blk off cap d0 w0 R hsz);have HC:Hid (CmpLays Tryz.prog g #[] encG 5 cfG blk off d0.size w0):=fun m os dk _ x y=>(hcmp x y _).mono fun e w' ⟨h1,h2⟩=>⟨h1,zS6 h2⟩;have cI:Hid (∀ (a b:Nat) (d:Array UG) (W:World),SWI w0 blk off d W→d.size=d0.size→a≤b→b≤d0.size→(∀ z z',a≤z→z < z'→z' < b→ixG d[z]! < ixG d[z']!)→Calls Tryz.prog 114 #[.slice (some ⟨blk,off,none⟩) d0.size cap,.int .i64 a,.int .i64 b,.func (.func g) #[] #[]] W fun e w'=>e=.returned (.tuple #[])∧∃ d',d'.size=d0.size∧SortedIn ltG a b d'∧PermIn a b d d'∧SWI w0 blk off d' w'):=fun a b d W S hs hab hb hasc=>by
  have h:=AnyQ.insertionSortCmpFunc_w Tryz.insU 5 Tryz.isAgg52 Tryz.sizeOf52 encG cfG g #[] blk off cap a b d0 d w0 W eg HC.out R hs.symm S xW0 hab qG qG;rw[hs,zI2 (lt:=ltOf cfG) (lt2:=ltG) (ix:=ixG) (fun x y hxy=>(zB7 hxy).symm) d a b qG hasc] at h;have hh:=insertionSort_holds (lt:=ltG) yR0 d a b hab qG;exact h.mono fun e w' ⟨h1,h2⟩=>⟨h1,_,hh.1.1.trans hs,hh.2,hh.1,h2⟩
 have HS0:=qK (SWK.start R.hH);clear hcmp HC eg;have hn1:¬ (d0.size:Int) < 0:=by omega
 go_enter Tryz.func77,Tryz.ntmps77
 go_wp2;go_loopw [7,8] (fun va vb wr=>∃ (t A:Nat) (d:Array UG),va=.int .i64 (A:Nat)∧vb=.int .i64 ((A:Int)+20)∧A≤d0.size∧d.size=d0.size∧Hid ((Fst t A d∧PermIn 0 d0.size d0 d)∧SepF d0.size t A d)∧Hid (SWI w0 blk off d wr)) (fun va _ _=>d0.size-(intOf va).toNat)
 case atStart=>exact⟨0,0,d0,rfl,rfl,Nat.zero_le _,rfl,qK ⟨⟨⟨by omega,fun j hj=>by omega⟩,permIn_refl _ _ _⟩,⟨by omega,fun p _ _ i j h1 h2 h3=>asc i j qG h3⟩⟩,HS0⟩
 case round=>
  obtain⟨t,A,d,rfl,rfl,hA,hds,HP,HS⟩:=hrel;by_cases hlt:A+20≤d0.size
  ·have hlt':(A:Int)+20≤(d0.size:Int):=by omega
   have wb:IntKind.i64.wrap ((A:Int)+20+20)=(A:Int)+20+20:=by rw[IntKind.wrap_i64];omega
   have c1:=qK (cI.out A (A+20) d wr HS.out hds qG hlt (HP.out.2.asc hlt));rw[show ((A+20:Nat):Int)=(A:Int)+20 by omega] at c1;go_wp2_with fail
   refine c1.out.mono ?_;rintro e w2 ⟨rfl,d',h0,h1,h2,h3⟩;have HN:=qK (And.intro (And.intro (HP.out.1.1.next h2 h1) (permIn_trans _ _ _ _ _ HP.out.1.2 (permIn_mono _ _ _ _ _ _ qG qG qG h2))) (HP.out.2.next qG hlt h2));have H3:=qK h3;clear h1 h2 h3 c1;go_wp2;go_roundw
   case rel=>exact⟨t+1,A+20,d',by first | rfl | go_num,by first | rfl | go_num,hlt,h0,HN,H3⟩
   case measure=>simp[intOf];omega
  ·have hlt':¬ (A:Int)+20≤(d0.size:Int):=by omega
   have c1:=qK (cI.out A d0.size d wr HS.out hds hA qJ (HP.out.2.asc qJ));go_wp2_with fail
   refine c1.out.mono ?_;rintro e w2 ⟨rfl,d',h0,h1,h2,h3⟩;have HN:=qK (And.intro (And.intro (HP.out.1.1.last qG hA h2 h1) (permIn_trans _ _ _ _ _ HP.out.1.2 (permIn_mono _ _ _ _ _ _ qG qG qG h2))) (HP.out.2.last qG hA qG h2));have H3:=qK h3;clear h1 h2 h3 c1 HP HS hlt hlt' hA hds;go_wp2;go_loopw [6] (fun vb wr=>∃ (bs:Nat) (d:Array UG),vb=.int .i64 (bs:Nat)∧20≤bs∧bs≤2097152∧d.size=d0.size∧Hid ((Bls d0.size bs d∧PermIn 0 d0.size d0 d)∧SepB d0.size bs d)∧Hid (SWI w0 blk off d wr)) (fun vb _=>d0.size-(intOf vb).toNat)
   case atStart=>exact⟨20,d',rfl,Nat.le_refl _,by omega,h0,HN,H3⟩
   case round=>
    clear h0 HN H3;obtain⟨bs,d,rfl,hb20,hbm,hds,HP,HS⟩:=hrel;by_cases hlt:bs < d0.size
    ·have hlt':(bs:Int) < (d0.size:Int):=by omega
     have w2b:IntKind.i64.wrap (2*(bs:Int))=2*(bs:Int):=by rw[IntKind.wrap_i64];omega
     have wb2:IntKind.i64.wrap ((bs:Int)*2)=2*(bs:Int):=by rw[IntKind.wrap_i64];omega
     go_wp2;go_loopw [7,8] (fun va vb wr=>∃ (t A:Nat) (d:Array UG),va=.int .i64 (A:Nat)∧vb=.int .i64 ((A:Int)+2*(bs:Int))∧A≤d0.size∧d.size=d0.size∧Hid ((Mix d0.size bs t A d∧PermIn 0 d0.size d0 d)∧SepM d0.size bs t A d)∧Hid (SWI w0 blk off d wr)) (fun va _ _=>d0.size-(intOf va).toNat)
     case atStart=>exact⟨0,0,d,rfl,by first | rfl | go_num | (congr 1;omega),Nat.zero_le _,hds,qK ⟨⟨Mix.start HP.out.1.1,HP.out.1.2⟩,SepM.start HP.out.2⟩,HS⟩
     case round=>
      clear HP HS hds;obtain⟨t,A,d,rfl,rfl,hA,hds,HP,HS⟩:=hrel;have wm:IntKind.i64.wrap ((A:Int)+(bs:Int))=(A:Int)+(bs:Int):=by rw[IntKind.wrap_i64];omega
      by_cases hle:A+2*bs≤d0.size
      ·have hle':(A:Int)+2*(bs:Int)≤(d0.size:Int):=by omega
       have wb:IntKind.i64.wrap ((A:Int)+2*(bs:Int)+2*(bs:Int))=(A:Int)+2*(bs:Int)+2*(bs:Int):=by rw[IntKind.wrap_i64];omega
       have c1:=qK (cM.out (2*bs) A (A+bs) (A+2*bs) d wr qG HS.out hds qG qG hle (by have:=HP.out.1.1.left;rwa [Nat.min_eq_left qG] at this) (by have:=HP.out.1.1.right;rw[Nat.min_eq_left qG,show A+bs+bs=A+2*bs by omega] at this;exact this) ((HP.out.2.mid qG).cr hle));rw[show ((A+bs:Nat):Int)=(A:Int)+(bs:Int) by omega,show ((A+2*bs:Nat):Int)=(A:Int)+2*(bs:Int) by omega] at c1;go_wp2_with fail
       refine c1.out.mono ?_;rintro e w4 ⟨rfl,d',h0,h1,h2,h3⟩;have HN:=qK (And.intro (And.intro (HP.out.1.1.next h2 h1) (permIn_trans _ _ _ _ _ HP.out.1.2 (permIn_mono _ _ _ _ _ _ qG qG qG h2))) (HP.out.2.next qG hle h2));have H3:=qK h3;clear h1 h2 h3 c1;go_wp2;go_roundw
       case rel=>exact⟨t+1,A+2*bs,d',by first | rfl | go_num,by first | rfl | go_num | (congr 1;omega),hle,h0,HN,H3⟩
       case measure=>simp[intOf];omega
      ·have hle':¬ (A:Int)+2*(bs:Int)≤(d0.size:Int):=by omega
       by_cases hm:A+bs < d0.size
       ·have hm':(A:Int)+(bs:Int) < (d0.size:Int):=by omega
        have c1:=qK (cM.out (2*bs) A (A+bs) d0.size d wr qG HS.out hds qG hm qJ (by have:=HP.out.1.1.left;rwa [Nat.min_eq_left qG] at this) (by have:=HP.out.1.1.right;rwa [Nat.min_eq_right qG] at this) ((HP.out.2.mid qG).cr qJ));rw[show ((A+bs:Nat):Int)=(A:Int)+(bs:Int) by omega] at c1;go_wp2_with fail
        refine c1.out.mono ?_;rintro e w4 ⟨rfl,d',h0,h1,h2,h3⟩;have HN:=qK (And.intro (And.intro (HP.out.1.1.last qG hA h2 h1) (permIn_trans _ _ _ _ _ HP.out.1.2 (permIn_mono _ _ _ _ _ _ qG qG qG h2))) (HP.out.2.last qG qG h2));have H3:=qK h3;clear h1 h2 h3 c1;go_wp2;go_roundw
        case rel=>exact⟨2*bs,d',by first | rfl | go_num,by omega,by omega,h0,HN,H3⟩
        case measure=>simp[intOf];omega
       ·have hm':¬ (A:Int)+(bs:Int) < (d0.size:Int):=by omega
        have HN:=qK (And.intro (And.intro (HP.out.1.1.last qG hA (permIn_refl _ _ _) (by have:=HP.out.1.1.left;rwa [Nat.min_eq_right qG] at this)) HP.out.1.2) (HP.out.2.last qG qG (permIn_refl _ _ _)));go_wp2;go_roundw
        case rel=>exact⟨2*bs,d,by first | rfl | go_num,by omega,by omega,hds,HN,HS⟩
        case measure=>simp[intOf];omega
    ·have hlt':¬ (bs:Int) < (d0.size:Int):=by omega
     go_wp2;first | go_end0 | refine bodyPost_ret (results_none rfl _ _ _) rfl ?_
     exact⟨rfl,d,hds,HP.out.1.1.done qG,HP.out.1.2,HS.out⟩
end Go.Proofs.YtdgehhgjgifikaaGreatDoor
