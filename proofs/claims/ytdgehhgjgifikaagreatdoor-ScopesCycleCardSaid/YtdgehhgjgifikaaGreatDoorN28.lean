/- What the claim needs of:SY ST TG ZI. -/
import Derived.Test.YtdgehhgjgifikaaGreatDoorN27
import Derived.Shelf.SlSortCmp.PdqK
import Derived.Test.YtdgehhgjgifikaaGreatDoorN25
import Derived.Test.YtdgehhgjgifikaaGreatDoorN10
namespace Go.Proofs.YtdgehhgjgifikaaGreatDoor
open Go.RowKit Go.Sort Go.Shelf
def Bls (n bs:Nat)(d:Array UG):Prop:=∀ j,SortedIn ltG (j*bs) (min (j*bs+bs) n) d
def Mix (n bs t A:Nat)(d:Array UG):Prop:=A=t*(2*bs)∧(∀ j,j < t→SortedIn ltG (j*(2*bs)) (j*(2*bs)+2*bs) d)∧∀ j,2*t≤j→SortedIn ltG (j*bs) (min (j*bs+bs) n) d
theorem Mix.start {n bs:Nat}{d:Array UG}(h:Bls n bs d):Mix n bs 0 0 d:=⟨by omega,fun j hj=>by omega,fun j _=>h j⟩
theorem zQ0 (t bs:Nat):2*t*bs=t*(2*bs):=by rw[Nat.mul_comm 2 t,Nat.mul_assoc]
theorem Mix.left {n bs t A:Nat}{d:Array UG}(h:Mix n bs t A d):SortedIn ltG A (min (A+bs) n) d:=by
 have:=h.2.2 (2*t) (Nat.le_refl _)
 rw[zQ0,←h.1] at this
 exact this
theorem Mix.right {n bs t A:Nat}{d:Array UG}(h:Mix n bs t A d):SortedIn ltG (A+bs) (min (A+bs+bs) n) d:=by
 have:=h.2.2 (2*t+1) (by omega)
 rw[Nat.add_mul,zQ0,←h.1,Nat.one_mul] at this
 exact this
theorem zQ6 {d d':Array UG}{a b x y:Nat}(p:PermIn a b d d')(h:SortedIn ltG x y d)(hn:y≤a∨b≤x):SortedIn ltG x y d':=fun i j hi hij hj=>by
 rw[p.2.1 i (by omega),p.2.1 j (by omega)]
 exact h i j hi hij hj
theorem zC8 {j t q:Nat}(h:j < t):j*q+q≤t*q:=by
 have:=Nat.mul_le_mul_right q (show j+1≤t from h)
 rwa [Nat.add_mul,Nat.one_mul] at this
theorem Mix.next {n bs t A:Nat}{d d':Array UG}(h:Mix n bs t A d)(p:PermIn A (A+2*bs) d d')(s:SortedIn ltG A (A+2*bs) d'):Mix n bs (t+1) (A+2*bs) d':=by
 refine⟨by rw[Nat.add_mul,Nat.one_mul,←h.1],fun j hj=>?_,fun j hj=>?_⟩
 ·by_cases e:j=t
  ·subst e
   rw[←h.1]
   exact s
  ·have:=zC8 (q:=2*bs) (show j < t by omega)
   rw[←h.1] at this
   exact zQ6 p (h.2.1 j (by omega)) (.inl this)
 ·have h1:=Nat.mul_le_mul_right bs (show 2*t+2≤j by omega)
  rw[Nat.add_mul,zQ0,←h.1] at h1
  exact zQ6 p (h.2.2 j (by omega)) (.inr h1)
theorem Mix.last {n bs t A:Nat}{d d':Array UG}(h:Mix n bs t A d)(hn:n < A+2*bs)(hA:A≤n)(p:PermIn A n d d')(s:SortedIn ltG A n d'):Bls n (2*bs) d':=by
 intro j
 by_cases e:j=t
 ·subst e
  rw[←h.1,Nat.min_eq_right (by omega)]
  exact s
 ·by_cases hj:j < t
  ·have:=zC8 (q:=2*bs) hj
   rw[←h.1] at this
   rw[Nat.min_eq_left (by omega)]
   exact zQ6 p (h.2.1 j hj) (.inl this)
  ·have:=zC8 (q:=2*bs) (show t < j by omega)
   rw[←h.1] at this
   intro x y hx hxy hy
   omega
theorem Bls.done {n bs:Nat}{d:Array UG}(h:Bls n bs d)(hn:n≤bs):SortedIn ltG 0 n d:=by
 have:=h 0
 rw[Nat.zero_mul,Nat.zero_add,Nat.min_eq_right hn] at this
 exact this
def Fst (t A:Nat)(d:Array UG):Prop:=A=t*20∧∀ j,j < t→SortedIn ltG (j*20) (j*20+20) d
theorem Fst.next {t A:Nat}{d d':Array UG}(h:Fst t A d)(p:PermIn A (A+20) d d')(s:SortedIn ltG A (A+20) d'):Fst (t+1) (A+20) d':=by
 refine⟨by have:=h.1;omega,fun j hj=>?_⟩
 by_cases e:j=t
 ·subst e;rw[←h.1];exact s
 ·exact zQ6 p (h.2 j (by omega)) (.inl (by have:=h.1;omega))
theorem Fst.last {n t A:Nat}{d d':Array UG}(h:Fst t A d)(hn:n < A+20)(hA:A≤n)(p:PermIn A n d d')(s:SortedIn ltG A n d'):Bls n 20 d':=by
 intro j
 have h1:=h.1
 by_cases e:j=t
 ·subst e
  rw[←h.1,Nat.min_eq_right (by omega)]
  exact s
 ·by_cases hj:j < t
  ·rw[Nat.min_eq_left (by omega)]
   exact zQ6 p (h.2 j hj) (.inl (by omega))
  ·intro x y hx hxy hy
   omega
def SepB (n bs:Nat)(d:Array UG):Prop:=∀ q,q*bs≤n→Sep ixG n d (q*bs)
def SepF (n t A:Nat)(d:Array UG):Prop:=A=t*20∧∀ p,(p % 20=0∨A≤p)→p≤n→Sep ixG n d p
def SepM (n bs t A:Nat)(d:Array UG):Prop:=A=t*(2*bs)∧(∀ q,q*(2*bs)≤n→Sep ixG n d (q*(2*bs)))∧∀ q,A≤q*bs→q*bs≤n→Sep ixG n d (q*bs)
theorem SepF.asc {n t A b:Nat}{d:Array UG}(h:SepF n t A d)(hb:b≤n):∀ z z',A≤z→z < z'→z' < b→ixG d[z]! < ixG d[z']!:=fun z z' h1 h2 h3=>h.2 z' (.inr (by omega)) (by omega) z z' h2 (Nat.le_refl _) (by omega)
theorem SepF.next {n t A:Nat}{d d':Array UG}(h:SepF n t A d)(hn:n≤d.size)(hA:A+20≤n)(p:PermIn A (A+20) d d'):SepF n (t+1) (A+20) d':=by
 have hA':=h.1
 refine⟨by omega,fun q hq hqn=>?_⟩
 rcases hq with hq | hq
 ·exact(h.2 q (.inl hq) hqn).kept hn hA p (by omega)
 ·exact(h.2 q (.inr (by omega)) hqn).kept hn hA p (.inr hq)
theorem SepF.last {n t A:Nat}{d d':Array UG}(h:SepF n t A d)(hn:n≤d.size)(hA:A≤n)(hl:n < A+20)(p:PermIn A n d d'):SepB n 20 d':=fun q hq=>by
 have hA':=h.1
 exact(h.2 (q*20) (.inl (by omega)) hq).kept hn (Nat.le_refl _) p (by omega)
theorem SepM.start {n bs:Nat}{d:Array UG}(h:SepB n bs d):SepM n bs 0 0 d:=⟨by omega,fun q hq=>by
 have:=h (2*q) (by rw[zQ0];exact hq)
 rwa [zQ0] at this,fun q _ hq=>h q hq⟩
theorem SepM.mid {n bs t A:Nat}{d:Array UG}(h:SepM n bs t A d)(hA:A+bs≤n):Sep ixG n d (A+bs):=by
 have e:(2*t+1)*bs=A+bs:=by rw[Nat.add_mul,zQ0,←h.1,Nat.one_mul]
 have:=h.2.2 (2*t+1) (by rw[e];omega) (by rw[e];exact hA)
 rwa [e] at this
theorem SepM.next {n bs t A:Nat}{d d':Array UG}(h:SepM n bs t A d)(hn:n≤d.size)(hA:A+2*bs≤n)(p:PermIn A (A+2*bs) d d'):SepM n bs (t+1) (A+2*bs) d':=by
 refine⟨by rw[Nat.add_mul,Nat.one_mul,←h.1],fun q hq=>(h.2.1 q hq).kept hn hA p ?_,fun q h1 h2=>(h.2.2 q (by omega) h2).kept hn hA p (.inr h1)⟩
 by_cases e:q≤t
 ·left
  rw[h.1]
  exact Nat.mul_le_mul_right _ e
 ·right
  have:=Nat.mul_le_mul_right (2*bs) (show t+1≤q by omega)
  rw[Nat.add_mul,Nat.one_mul,←h.1] at this
  exact this
theorem SepM.last {n bs t A:Nat}{d d':Array UG}(h:SepM n bs t A d)(hn:n≤d.size)(hl:n < A+2*bs)(p:PermIn A n d d'):SepB n (2*bs) d':=fun q hq=>by
 refine(h.2.1 q hq).kept hn (Nat.le_refl _) p ?_
 by_cases e:q≤t
 ·left
  rw[h.1]
  exact Nat.mul_le_mul_right _ e
 ·have:=Nat.mul_le_mul_right (2*bs) (show t+1≤q by omega)
  rw[Nat.add_mul,Nat.one_mul,←h.1] at this
  omega
set_option maxRecDepth 100000 in
set_option maxHeartbeats 8000000 in
theorem yL4 (g:Nat)(eg:∀ args w,(callFunc g args).run Tryz.prog w=.ok (.enter g args) w)(hcmp:∀ x y W,Calls Tryz.prog g #[.agg (encG x).toArray,.agg (encG y).toArray] W fun e w'=>e=.returned (.int .i64 (cfG x y))∧BelowD W.heap.size W w')
  (blk off cap:Nat)(d0:Array UG)(w0:World)(R:RowK encG 5 w0 blk off d0)(hsz:d0.size≤1048576)(asc:∀ z z',z < z'→z' < d0.size→ixG d0[z]! < ixG d0[z']!) :
  Calls Tryz.prog 77 #[.slice (some ⟨blk,off,none⟩) d0.size cap,.int .i64 d0.size,.func (.func g) #[] #[]] w0 fun e w'=>e=.returned (.tuple #[])∧∃ d',d'.size=d0.size∧SortedIn ltG 0 d0.size d'∧PermIn 0 d0.size d0 d'∧SWI w0 blk off d' w':=by
 have cM:=Lib.hid (yP7 g eg hcmp blk off cap d0 w0 R hsz)
 have HC:Hid (CmpLays Tryz.prog g #[] encG 5 cfG blk off d0.size w0):=fun m os dk _ x y=>(hcmp x y _).mono fun e w' ⟨h1,h2⟩=>⟨h1,zU7 h2⟩
 have cI:Hid (∀ (a b:Nat) (d:Array UG) (W:World),SWI w0 blk off d W→d.size=d0.size→a≤b→b≤d0.size→(∀ z z',a≤z→z < z'→z' < b→ixG d[z]! < ixG d[z']!)→Calls Tryz.prog 114 #[.slice (some ⟨blk,off,none⟩) d0.size cap,.int .i64 a,.int .i64 b,.func (.func g) #[] #[]] W fun e w'=>e=.returned (.tuple #[])∧∃ d',d'.size=d0.size∧SortedIn ltG a b d'∧PermIn a b d d'∧SWI w0 blk off d' w'):=fun a b d W S hs hab hb hasc=>by
  have h:=AnyQ.insertionSortCmpFunc_w Tryz.insU 5 Tryz.isAgg52 Tryz.sizeOf52 encG cfG g #[] blk off cap a b d0 d w0 W eg HC.out R hs.symm S xY0 hab (by omega) (by omega)
  rw[hs,zJ0 (lt:=ltOf cfG) (lt2:=ltG) (ix:=ixG) (fun x y hxy=>(zC5 hxy).symm) d a b (by omega) hasc] at h
  have hh:=insertionSort_holds (lt:=ltG) yU8 d a b hab (by omega)
  exact h.mono fun e w' ⟨h1,h2⟩=>⟨h1,_,hh.1.1.trans hs,hh.2,hh.1,h2⟩
 have HS0:=Lib.hid (SWK.start R.hH)
 clear hcmp HC eg
 have hn1:¬ (d0.size:Int) < 0:=by omega
 go_enter Tryz.func77,Tryz.ntmps77
 go_wp2
 go_loopw [7,8] (fun va vb wr=>∃ (t A:Nat) (d:Array UG),va=.int .i64 (A:Nat)∧vb=.int .i64 ((A:Int)+20)∧A≤d0.size∧d.size=d0.size∧Hid ((Fst t A d∧PermIn 0 d0.size d0 d)∧SepF d0.size t A d)∧Hid (SWI w0 blk off d wr)) (fun va _ _=>d0.size-(intOf va).toNat)
 case atStart=>exact⟨0,0,d0,rfl,rfl,Nat.zero_le _,rfl,Lib.hid ⟨⟨⟨by omega,fun j hj=>by omega⟩,permIn_refl _ _ _⟩,⟨by omega,fun p _ _ i j h1 h2 h3=>asc i j (by omega) h3⟩⟩,HS0⟩
 case round=>
  obtain⟨t,A,d,rfl,rfl,hA,hds,HP,HS⟩:=hrel
  by_cases hlt:A+20≤d0.size
  ·have hlt':(A:Int)+20≤(d0.size:Int):=by omega
   have wb:IntKind.i64.wrap ((A:Int)+20+20)=(A:Int)+20+20:=by rw[IntKind.wrap_i64];omega
   have c1:=Lib.hid (cI.out A (A+20) d wr HS.out hds (by omega) hlt (HP.out.2.asc hlt))
   rw[show ((A+20:Nat):Int)=(A:Int)+20 by omega] at c1
   go_wp2_with fail
   refine c1.out.mono ?_
   rintro e w2 ⟨rfl,d',h0,h1,h2,h3⟩
   have HN:=Lib.hid (And.intro (And.intro (HP.out.1.1.next h2 h1) (permIn_trans _ _ _ _ _ HP.out.1.2 (permIn_mono _ _ _ _ _ _ (by omega) (by omega) (by omega) h2))) (HP.out.2.next (by omega) hlt h2))
   have H3:=Lib.hid h3
   clear h1 h2 h3 c1
   go_wp2
   go_roundw
   case rel=>exact⟨t+1,A+20,d',by first | rfl | go_num,by first | rfl | go_num,hlt,h0,HN,H3⟩
   case measure=>simp[intOf];omega
  ·have hlt':¬ (A:Int)+20≤(d0.size:Int):=by omega
   have c1:=Lib.hid (cI.out A d0.size d wr HS.out hds hA (Nat.le_refl _) (HP.out.2.asc (Nat.le_refl _)))
   go_wp2_with fail
   refine c1.out.mono ?_
   rintro e w2 ⟨rfl,d',h0,h1,h2,h3⟩
   have HN:=Lib.hid (And.intro (And.intro (HP.out.1.1.last (by omega) hA h2 h1) (permIn_trans _ _ _ _ _ HP.out.1.2 (permIn_mono _ _ _ _ _ _ (by omega) (by omega) (by omega) h2))) (HP.out.2.last (by omega) hA (by omega) h2))
   have H3:=Lib.hid h3
   clear h1 h2 h3 c1 HP HS hlt hlt' hA hds
   go_wp2
   go_loopw [6] (fun vb wr=>∃ (bs:Nat) (d:Array UG),vb=.int .i64 (bs:Nat)∧20≤bs∧bs≤2097152∧d.size=d0.size∧Hid ((Bls d0.size bs d∧PermIn 0 d0.size d0 d)∧SepB d0.size bs d)∧Hid (SWI w0 blk off d wr)) (fun vb _=>d0.size-(intOf vb).toNat)
   case atStart=>exact⟨20,d',rfl,Nat.le_refl _,by omega,h0,HN,H3⟩
   case round=>
    clear h0 HN H3
    obtain⟨bs,d,rfl,hb20,hbm,hds,HP,HS⟩:=hrel
    by_cases hlt:bs < d0.size
    ·have hlt':(bs:Int) < (d0.size:Int):=by omega
     have w2b:IntKind.i64.wrap (2*(bs:Int))=2*(bs:Int):=by rw[IntKind.wrap_i64];omega
     have wb2:IntKind.i64.wrap ((bs:Int)*2)=2*(bs:Int):=by rw[IntKind.wrap_i64];omega
     go_wp2
     go_loopw [7,8] (fun va vb wr=>∃ (t A:Nat) (d:Array UG),va=.int .i64 (A:Nat)∧vb=.int .i64 ((A:Int)+2*(bs:Int))∧A≤d0.size∧d.size=d0.size∧Hid ((Mix d0.size bs t A d∧PermIn 0 d0.size d0 d)∧SepM d0.size bs t A d)∧Hid (SWI w0 blk off d wr)) (fun va _ _=>d0.size-(intOf va).toNat)
     case atStart=>exact⟨0,0,d,rfl,by first | rfl | go_num | (congr 1;omega),Nat.zero_le _,hds,Lib.hid ⟨⟨Mix.start HP.out.1.1,HP.out.1.2⟩,SepM.start HP.out.2⟩,HS⟩
     case round=>
      clear HP HS hds
      obtain⟨t,A,d,rfl,rfl,hA,hds,HP,HS⟩:=hrel
      have wm:IntKind.i64.wrap ((A:Int)+(bs:Int))=(A:Int)+(bs:Int):=by rw[IntKind.wrap_i64];omega
      by_cases hle:A+2*bs≤d0.size
      ·have hle':(A:Int)+2*(bs:Int)≤(d0.size:Int):=by omega
       have wb:IntKind.i64.wrap ((A:Int)+2*(bs:Int)+2*(bs:Int))=(A:Int)+2*(bs:Int)+2*(bs:Int):=by rw[IntKind.wrap_i64];omega
       have c1:=Lib.hid (cM.out (2*bs) A (A+bs) (A+2*bs) d wr (by omega) HS.out hds (by omega) (by omega) hle (by have:=HP.out.1.1.left;rwa [Nat.min_eq_left (by omega)] at this) (by have:=HP.out.1.1.right;rw[Nat.min_eq_left (by omega),show A+bs+bs=A+2*bs by omega] at this;exact this) ((HP.out.2.mid (by omega)).cr hle))
       rw[show ((A+bs:Nat):Int)=(A:Int)+(bs:Int) by omega,show ((A+2*bs:Nat):Int)=(A:Int)+2*(bs:Int) by omega] at c1
       go_wp2_with fail
       refine c1.out.mono ?_
       rintro e w4 ⟨rfl,d',h0,h1,h2,h3⟩
       have HN:=Lib.hid (And.intro (And.intro (HP.out.1.1.next h2 h1) (permIn_trans _ _ _ _ _ HP.out.1.2 (permIn_mono _ _ _ _ _ _ (by omega) (by omega) (by omega) h2))) (HP.out.2.next (by omega) hle h2))
       have H3:=Lib.hid h3
       clear h1 h2 h3 c1
       go_wp2
       go_roundw
       case rel=>exact⟨t+1,A+2*bs,d',by first | rfl | go_num,by first | rfl | go_num | (congr 1;omega),hle,h0,HN,H3⟩
       case measure=>simp[intOf];omega
      ·have hle':¬ (A:Int)+2*(bs:Int)≤(d0.size:Int):=by omega
       by_cases hm:A+bs < d0.size
       ·have hm':(A:Int)+(bs:Int) < (d0.size:Int):=by omega
        have c1:=Lib.hid (cM.out (2*bs) A (A+bs) d0.size d wr (by omega) HS.out hds (by omega) hm (Nat.le_refl _) (by have:=HP.out.1.1.left;rwa [Nat.min_eq_left (by omega)] at this) (by have:=HP.out.1.1.right;rwa [Nat.min_eq_right (by omega)] at this) ((HP.out.2.mid (by omega)).cr (Nat.le_refl _)))
        rw[show ((A+bs:Nat):Int)=(A:Int)+(bs:Int) by omega] at c1
        go_wp2_with fail
        refine c1.out.mono ?_
        rintro e w4 ⟨rfl,d',h0,h1,h2,h3⟩
        have HN:=Lib.hid (And.intro (And.intro (HP.out.1.1.last (by omega) hA h2 h1) (permIn_trans _ _ _ _ _ HP.out.1.2 (permIn_mono _ _ _ _ _ _ (by omega) (by omega) (by omega) h2))) (HP.out.2.last (by omega) (by omega) h2))
        have H3:=Lib.hid h3
        clear h1 h2 h3 c1
        go_wp2
        go_roundw
        case rel=>exact⟨2*bs,d',by first | rfl | go_num,by omega,by omega,h0,HN,H3⟩
        case measure=>simp[intOf];omega
       ·have hm':¬ (A:Int)+(bs:Int) < (d0.size:Int):=by omega
        have HN:=Lib.hid (And.intro (And.intro (HP.out.1.1.last (by omega) hA (permIn_refl _ _ _) (by have:=HP.out.1.1.left;rwa [Nat.min_eq_right (by omega)] at this)) HP.out.1.2) (HP.out.2.last (by omega) (by omega) (permIn_refl _ _ _)))
        go_wp2
        go_roundw
        case rel=>exact⟨2*bs,d,by first | rfl | go_num,by omega,by omega,hds,HN,HS⟩
        case measure=>simp[intOf];omega
    ·have hlt':¬ (bs:Int) < (d0.size:Int):=by omega
     go_wp2
     first | go_end0 | refine bodyPost_ret (results_none rfl _ _ _) rfl ?_
     exact⟨rfl,d,hds,HP.out.1.1.done (by omega),HP.out.1.2,HS.out⟩
section
variable {α:Type}{lt:α→α→Bool}
def zJ1 (lt:α→α→Bool)(l:List α)(x:α):List α:=l.takeWhile (fun y=>!lt x y)++x ::l.dropWhile fun y=>!lt x y
def stF (lt:α→α→Bool)(l:List α):List α:=l.foldl (zJ1 lt) []
def keyL (lt:α→α→Bool)(a b:α × Nat):Bool:=lt a.1 b.1
def lexP (lt:α→α→Bool)(a b:α × Nat):Prop:=lexL (keyL lt) (·.2) b a=false
theorem yT3 (hO:SWO lt):SWO (keyL lt):=⟨fun x=>hO.irrefl x.1,fun x y z=>hO.trans x.1 y.1 z.1,fun x y z=>hO.ntrans x.1 y.1 z.1⟩
theorem xY4 (L:List (α × Nat))(x:α × Nat):(zJ1 (keyL lt) L x).map (·.1)=zJ1 lt (L.map (·.1)) x.1:=by
 unfold zJ1
 rw[List.map_append,List.map_cons,List.takeWhile_map,List.dropWhile_map]
 rfl
theorem xY5:∀ (L acc:List (α × Nat)),(L.foldl (zJ1 (keyL lt)) acc).map (·.1)=(L.map (·.1)).foldl (zJ1 lt) (acc.map (·.1))
 | [],acc=>rfl
 | x ::L,acc=>by
   rw[List.foldl_cons,xY5 L,xY4]
   rfl
theorem yX1 (l:List α)(x:α):(zJ1 lt l x).Perm (l++ [x]):=by
 unfold zJ1
 have h:=List.takeWhile_append_dropWhile (p:=fun y=>!lt x y) (l:=l)
 refine(List.perm_middle).trans ?_
 rw[h]
 exact(List.perm_append_singleton x l).symm
theorem yT4:∀ (L acc:List α),(L.foldl (zJ1 lt) acc).Perm (acc++L)
 | [],acc=>by simp
 | x ::L,acc=>by
   rw[List.foldl_cons]
   refine(yT4 L _).trans ?_
   refine((yX1 acc x).append_right L).trans ?_
   rw[List.append_assoc]
   exact List.Perm.refl _
theorem zP5 {p:α→Bool}:∀ (l:List α)(h:α)(r:List α),l.dropWhile p=h ::r→p h=false
 | [],h,r,e=>by simp at e
 | y ::l,h,r,e=>by
   rw[List.dropWhile_cons] at e
   by_cases hy:p y=true
   ·rw[if_pos hy] at e
    exact zP5 l h r e
   ·rw[if_neg hy] at e
    injection e with e1 _
    subst e1
    simpa using hy
theorem zR5 {p:α→Bool}:∀ (l:List α)(a:α),a∈l.takeWhile p→p a=true
 | [],a,h=>by simp at h
 | y ::l,a,h=>by
   rw[List.takeWhile_cons] at h
   by_cases hy:p y=true
   ·rw[if_pos hy] at h
    rcases List.mem_cons.1 h with rfl | h
    ·exact hy
    ·exact zR5 l a h
   ·rw[if_neg hy] at h
    cases h
theorem yP8 (hO:SWO lt){L:List (α × Nat)}{x:α × Nat}(hs:L.Pairwise (lexP lt))(hi:∀ y∈L,y.2 < x.2):(zJ1 (keyL lt) L x).Pairwise (lexP lt):=by
 unfold zJ1
 have hL:=List.takeWhile_append_dropWhile (p:=fun y=>!keyL lt x y) (l:=L)
 have hsub:∀ a∈L.takeWhile (fun y=>!keyL lt x y),a∈L:=fun a ha=>by rw[←hL];exact List.mem_append_left _ ha
 rw[←hL,List.pairwise_append] at hs
 have htop:∀ b∈L.dropWhile (fun y=>!keyL lt x y),keyL lt x b=true:=by
  intro b hb
  cases hd:L.dropWhile (fun y=>!keyL lt x y) with
  | nil=>rw[hd] at hb;cases hb
  | cons h r=>
    have h0:keyL lt x h=true:=by
     have:=zP5 _ _ _ hd
     simpa using this
    rw[hd] at hb hs
    rcases List.mem_cons.1 hb with rfl | hb
    ·exact h0
    ·have h1:=(List.pairwise_cons.1 hs.2.1).1 b hb
     have h2:=((zS8 _ _).1 h1).1
     cases h3:keyL lt x b with
     | true=>rfl
     | false=>
       have:=(yT3 hO).ntrans _ _ _ h3 h2
       rw[h0] at this
       cases this
 rw[List.pairwise_append]
 refine⟨hs.1,List.pairwise_cons.2 ⟨fun b hb=>?_,hs.2.1⟩,fun a ha b hb=>?_⟩
 ·have h1:=htop b hb
  refine(zS8 _ _).2 ⟨?_,.inl h1⟩
  cases h2:keyL lt b x with
  | false=>rfl
  | true=>
    have:=(yT3 hO).trans _ _ _ h1 h2
    rw[(yT3 hO).irrefl] at this
    cases this
 ·rcases List.mem_cons.1 hb with rfl | hb
  ·have h1:=zR5 _ _ ha
   have h2:=hi a (hsub a ha)
   exact(zS8 _ _).2 ⟨by simpa using h1,.inr (by omega)⟩
  ·exact hs.2.2 a ha b hb
theorem yX2 (hO:SWO lt):∀ (l:List α)(k:Nat)(acc:List (α × Nat)),acc.Pairwise (lexP lt)→(∀ y∈acc,y.2 < k)→((l.zipIdx k).foldl (zJ1 (keyL lt)) acc).Pairwise (lexP lt)
 | [],k,acc,h,_=>h
 | x ::l,k,acc,h,hk=>by
   rw[List.zipIdx_cons,List.foldl_cons]
   refine yX2 hO l (k+1) _ (yP8 hO h hk) fun y hy=>?_
   rcases List.mem_append.1 ((yX1 acc (x,k)).mem_iff.1 hy) with hy | hy
   ·have:=hk y hy
    omega
   ·rw[List.mem_singleton.1 hy]
    exact Nat.lt_succ_self k
theorem yT5 (hO:SWO lt){l:List α}{D:List (α × Nat)}(hp:D.Perm l.zipIdx)(hs:D.Pairwise (lexP lt)):D.map (·.1)=stF lt l:=by
 have hG:=yX2 hO l 0 [] List.Pairwise.nil (fun y hy=>by cases hy)
 have hGp:(l.zipIdx.foldl (zJ1 (keyL lt)) []).Perm l.zipIdx:=by simpa using yT4 (lt:=keyL lt) l.zipIdx []
 have he:D=l.zipIdx.foldl (zJ1 (keyL lt)) []:=by
  refine List.Perm.eq_of_pairwise (le:=lexP lt) (fun a b ha hb h1 h2=>?_) hs hG (hp.trans hGp.symm)
  have h1':=(zS8 _ _).1 h1
  have h2':=(zS8 _ _).1 h2
  have e:a.2=b.2:=by
   rcases h1'.2 with h3 | h3
   ·rw[h2'.1] at h3;cases h3
   ·rcases h2'.2 with h4 | h4
    ·rw[h1'.1] at h4;cases h4
    ·omega
  have ma:=List.mem_zipIdx_iff_getElem?.1 (hp.mem_iff.1 ha)
  have mb:=List.mem_zipIdx_iff_getElem?.1 (hGp.mem_iff.1 hb)
  rw[e] at ma
  rw[ma] at mb
  injection mb with mb
  exact Prod.ext mb e
 rw[he,xY5]
 simp[stF]
end
abbrev Shp:=List (List Tx × List Tx)
def zC9 (l:List D):List Tx:=l.filterMap fun d=>if d.k=4 then some d.l else none
def shpOf (l:List D):List Tx × List Tx:=(zL3 l,zC9 l)
def xY6 (s:Tx):Shp→Int × Int
 | []=>(0,0)
 | x ::r=>if s∈x.2 then(2,(r.length:Int)) else if s∈x.1 then(1,(r.length:Int)) else xY6 s r
def resK (im:List Tx)(env:Shp)(lp:List Tx)(s:Tx):Int × Int:=
 if s∈lp then(3,0) else if (xY6 s env).1=0 then(if s∈im then(4,0) else(0,0)) else xY6 s env
def useK (im:List (List Tx))(env:Shp)(lp:List Tx)(file:Nat)(s:Tx)(pos:Int):Us:=⟨file,pos,s,(resK (im.getD file []) env lp s).1,(resK (im.getD file []) env lp s).2⟩
mutual
def uE (im:List (List Tx)):E→Shp→List Tx→Nat→List Us
 | .mk k t _ a b subs decls _ pos,env,lp,file=>
   if k=10 then[useK im env lp file t pos]
   else uEs im (if k=15 then[a,b] else[]) 0 subs env lp file++uDs im decls (if k=13 then shpOf decls ::env else env) (if k=13 then[] else lp) file
def uEs (im:List (List Tx))(nm:List Tx):Nat→List E→Shp→List Tx→Nat→List Us
 | _,[],_,_,_=>[]
 | i,e ::r,env,lp,file=>uE im e env (lp++if i=0 then[] else nm) file++uEs im nm (i+1) r env lp file
def uDs (im:List (List Tx)):List D→Shp→List Tx→Nat→List Us
 | [],_,_,_=>[]
 | d ::r,env,lp,file=>uD im d env lp file++uDs im r env lp file
def uD (im:List (List Tx)):D→Shp→List Tx→Nat→List Us
 | .mk k _ _ a b subs body _ _ _ _,env,lp,file=>uEs im [] 0 subs env lp file++uDs im body env (lp++if k=6 then[a,b] else[]) file
end
mutual
def tE:E→Bool
 | .mk k _ _ _ _ subs decls _ _=>(if k=10 then false else tEs subs)||(decide (k=13)&&(dupB (zC9 decls)||(zC9 decls).any fun x=>decide (x∈zL3 decls)))||(if k=10 then false else tDs decls)
def tEs:List E→Bool
 | []=>false
 | e ::r=>tE e||tEs r
def tD:D→Bool
 | .mk _ _ _ _ _ subs body _ _ _ _=>tEs subs||tDs body
def tDs:List D→Bool
 | []=>false
 | d ::r=>tD d||tDs r
end
def zT5 (fs:List Fl):List Tx × List Tx:=(fs.flatMap fun f=>zL3 f.decls,fs.flatMap fun f=>zC9 f.decls)
def yJ9 (fs:List Fl):Bool:=(fs.any fun f=>dupB (f.imps.map (·.name)))||dupB (zT5 fs).2||((zT5 fs).2.any fun x=>decide (x∈(zT5 fs).1))||fs.any fun f=>tDs f.decls
def yD1 (fs:List Fl):List (List Tx):=fs.map fun f=>f.imps.map (·.name)
def stU (l:List Us):List Us:=l.foldl (fun l x=>l.takeWhile (fun y=>decide (y.pos≤x.pos))++x ::l.dropWhile fun y=>decide (y.pos≤x.pos)) []
def usFs (fs:List Fl):Nat→List Fl→List Us
 | _,[]=>[]
 | i,f ::r=>stU (uDs (yD1 fs) f.decls [zT5 fs] [] i)++usFs fs (i+1) r
def errP (rx:Tx→Bool)(p:Pk):Int:=
 match p.files.find? fun f=>decide (errF rx f≠0) with
 | some f=>errF rx f
 | none=>if p.files.any fun f=>decide (f.pkg≠(p.files.headD ⟨[],[],[],[]⟩).pkg) then 5 else if yJ9 p.files then 6 else 0
def zS9 (rx:Tx→Bool)(p:Pk):List Us × Int:=if errP rx p≠0 then([],errP rx p) else(usFs p.files 0 p.files,0)
def zF6 (rx:Tx→Bool)(p:Pk):List Us × Int:=((zS9 rx p).1.filter fun u=>decide (u.kind=0),(zS9 rx p).2)
def shA (x:ScA):List Tx × List Tx:=(x.fields,x.lets.map (·.1))
theorem zN2 {l:List (Tx × Nat)}{s:Tx}:(∃ b,zV9 l s=some b)↔s∈l.map (·.1):=by
 constructor
 ·rintro⟨b,hb⟩
  exact List.mem_map.2 ⟨(s,b),zR1 hb,rfl⟩
 ·intro h
  obtain⟨p,hp,rfl⟩:=List.mem_map.1 h
  cases hl:zV9 l p.1 with
  | some b=>exact⟨b,rfl⟩
  | none=>exact absurd hp (zH8.1 hl p.2)
theorem zB0 (s:Tx):∀ env:List ScA,xY6 s (env.map shA)=((zV6 s env).1,(zV6 s env).2.1)
 | []=>rfl
 | x ::r=>by
   have ih:=zB0 s r
   rw[List.map_cons,xY6,zV6]
   simp only[List.length_map]
   cases hl:zV9 x.lets s with
   | some b=>
     rw[if_pos (show s∈(shA x).2 from zN2.1 ⟨b,hl⟩)]
   | none=>
     rw[if_neg (show ¬ s∈(shA x).2 from fun h=>by
      obtain⟨b,hb⟩:=zN2.2 h
      rw[hl] at hb;cases hb)]
     by_cases hf:s∈x.fields
     ·rw[if_pos (show s∈(shA x).1 from hf)]
      simp only[if_pos hf]
     ·rw[if_neg (show ¬ s∈(shA x).1 from hf),ih]
      simp only[if_neg hf]
theorem yL5 (imps:List (List Tx))(env:List ScA)(lp:List Tx)(file:Nat)(s:Tx):resK (imps.getD file []) (env.map shA) lp s=((zW6 imps env lp file s).1,(zW6 imps env lp file s).2.1):=by
 unfold resK zW6
 rw[zB0]
 by_cases hl:s∈lp
 ·rw[if_pos hl,if_pos hl]
 ·rw[if_neg hl,if_neg hl]
  by_cases h0:(zV6 s env).1=0
  ·simp only[h0,if_true]
   by_cases hi:s∈imps.getD file []
   ·rw[if_pos hi,if_pos hi]
   ·rw[if_neg hi,if_neg hi]
  ·simp only[if_neg h0]
theorem zG5 (l:List DA):zC9 (plDs l)=(zZ7 l).map lblD:=by
 unfold zC9 zZ7
 rw[zY7]
 induction l with
 | nil=>rfl
 | cons d l ih=>
   rw[List.map_cons,List.filterMap_cons,List.filter_cons]
   by_cases hd:(plD d).k=4
   ·simp only[if_pos hd]
    rw[if_pos (show zD6 d=true from decide_eq_true hd),List.map_cons,ih]
    rfl
   ·simp only[if_neg hd]
    rw[if_neg (show ¬ zD6 d=true from by unfold zD6;rw[decide_eq_false hd];decide),ih]
theorem yP9 {X:Type}{decls:List DA}{file:Nat}{env env':List ScA}{σ σ':GS X}(h:Dcl decls file env σ σ' env'):env'.map shA=shpOf (plDs decls) ::env.map shA∧σ'.x=σ.x∧σ'.ρ.twice=(!okD2 [] [] decls||σ.ρ.twice):=by
 obtain⟨sB,bF,bL,bs,gs,av,hlen,_,rfl,_,rfl⟩:=h
 refine⟨?_,rfl,rfl⟩
 rw[List.map_cons]
 congr 1
 unfold shA scOf shpOf
 simp only
 rw[List.map_fst_zip (by rw[List.length_map];omega),zG5]
 rfl
theorem yL6 (file:Nat)(s:Tx)(x:Int × Int × Option Nat)(r:RS):(zU5 file s x r).twice=r.twice:=by
 unfold zU5
 split
 ·rfl
 ·split <;> rfl
theorem visU (R:RF)(bx:Nat):(∀ e,∀ env lp file σ σ' e',VisE R (UU bx) e env lp file σ σ' e'→σ'.x.2=σ.x.2++uE R.imps (plE e) (env.map shA) lp file)∧(∀ d,∀ env lp file σ σ' d',VisD R (UU bx) d env lp file σ σ' d'→σ'.x.2=σ.x.2++uD R.imps (plD d) (env.map shA) lp file)∧
  (∀ l,∀ i nm env lp file σ σ' l',zW1 R (UU bx) l i nm env lp file σ σ' l'→σ'.x.2=σ.x.2++uEs R.imps nm i (plEs l) (env.map shA) lp file)∧∀ l,∀ env lp file σ σ' l',zX7 R (UU bx) l env lp file σ σ' l'→σ'.x.2=σ.x.2++uDs R.imps (plDs l) (env.map shA) lp file:=
 zX4 (fun k t m a b As cs subs Ad cd decls At ct tail pos h1 h2 env lp file σ σ' e' h=>by
   rw[VisE] at h
   rw[plE,uE]
   rcases h with ⟨rfl,_,v',rfl⟩ | ⟨hk,σ1,subs',σ2,env2,decls',As',cs',Ad',cd',At',ct',hs,hd,hds,_⟩
   ·rw[if_pos rfl]
    show σ.x.2++ [yP5 t pos _ file]=_
    unfold useK yP5
    rw[yL5]
   ·rw[if_neg hk]
    have e1:=h1 _ _ _ _ _ _ _ _ hs
    have e2:=h2 _ _ _ _ _ _ hds
    rw[e2]
    rcases hd with ⟨rfl,hd⟩ | ⟨hk3,rfl,rfl⟩
    ·obtain⟨q1,q2,_⟩:=yP9 hd
     rw[q2,e1,q1,if_pos rfl,if_pos rfl,List.append_assoc]
    ·rw[e1,if_neg hk3,if_neg hk3,List.append_assoc])
  (fun k p l a b As cs subs Ab cb body At ct tail Al cl lead tr pos h1 h2 env lp file σ σ' d' h=>by
   rw[VisD] at h
   rw[plD,uD]
   obtain⟨σ1,subs',body',As',cs',Ab',cb',At',ct',Al',cl',hs,hb,_⟩:=h
   rw[h2 _ _ _ _ _ _ hb,h1 _ _ _ _ _ _ _ _ hs,List.append_assoc])
  (fun i nm env lp file σ σ' l' h=>by
   rw[zW1] at h
   obtain⟨rfl,_⟩:=h
   rw[plEs,uEs,List.append_nil])
  (fun e l h1 h2 i nm env lp file σ σ' l' h=>by
   rw[zW1] at h
   obtain⟨σ1,e1,r1,he,hl,_⟩:=h
   rw[plEs,uEs,h2 _ _ _ _ _ _ _ _ hl,h1 _ _ _ _ _ _ he,List.append_assoc])
  (fun env lp file σ σ' l' h=>by
   rw[zX7] at h
   obtain⟨rfl,_⟩:=h
   rw[plDs,uDs,List.append_nil])
  (fun d l h1 h2 env lp file σ σ' l' h=>by
   rw[zX7] at h
   obtain⟨σ1,d1,r1,hd,hl,_⟩:=h
   rw[plDs,uDs,h2 _ _ _ _ _ _ hl,h1 _ _ _ _ _ _ hd,List.append_assoc])
theorem zN3:∀ (l seen:List Tx),zT6 seen l=(!dupB l&&l.all fun x=>!decide (x∈seen))
 | [],seen=>by simp[zT6,dupB]
 | x ::l,seen=>by
   rw[zT6,zN3 l (seen++ [x]),dupB,List.all_cons]
   have e:(l.all fun y=>!decide (y∈seen++ [x]))=((l.all fun y=>!decide (y∈seen))&& !decide (x∈l)):=by
    rw[Bool.eq_iff_iff]
    simp only[List.all_eq_true,Bool.not_eq_true',decide_eq_false_iff_not,List.mem_append,List.mem_singleton,Bool.and_eq_true]
    constructor
    ·intro h
     exact⟨fun y hy hs=>h y hy (.inl hs),fun hx=>h x hx (.inr rfl)⟩
    ·rintro⟨h1,h2⟩ y hy (h3 | rfl)
     ·exact h1 y hy h3
     ·exact h2 hy
   rw[e]
   cases decide (x∈seen) <;> cases dupB l <;> cases decide (x∈l) <;> cases (l.all fun y=>!decide (y∈seen)) <;> rfl
theorem yD2 (decls:List DA):(!okD2 [] [] decls)=(dupB (zC9 (plDs decls))||(zC9 (plDs decls)).any fun x=>decide (x∈zL3 (plDs decls))):=by
 rw[yU1,okN,List.map_nil,zN3,zG5]
 have e1:(((zZ7 decls).map lblD).all fun x=>!decide (x∈([]:List Tx)))=true:=by simp
 rw[e1,Bool.and_true,List.nil_append,List.nil_append]
 have e2:(((zZ7 decls).map lblD).all fun x=>!decide (x∈zY2 decls))= !((zZ7 decls).map lblD).any fun x=>decide (x∈zL3 (plDs decls)):=by
  rw[List.not_any_eq_all_not]
  rfl
 rw[e2,Bool.not_and,Bool.not_not,Bool.not_not]
theorem visT (R:RF):(∀ e,∀ env lp file (σ σ':GS Unit) e',VisE R U0 e env lp file σ σ' e'→σ'.ρ.twice=(σ.ρ.twice||tE (plE e)))∧(∀ d,∀ env lp file (σ σ':GS Unit) d',VisD R U0 d env lp file σ σ' d'→σ'.ρ.twice=(σ.ρ.twice||tD (plD d)))∧
  (∀ l,∀ i nm env lp file (σ σ':GS Unit) l',zW1 R U0 l i nm env lp file σ σ' l'→σ'.ρ.twice=(σ.ρ.twice||tEs (plEs l)))∧∀ l,∀ env lp file (σ σ':GS Unit) l',zX7 R U0 l env lp file σ σ' l'→σ'.ρ.twice=(σ.ρ.twice||tDs (plDs l)):=
 zX4 (fun k t m a b As cs subs Ad cd decls At ct tail pos h1 h2 env lp file σ σ' e' h=>by
   rw[VisE] at h
   rw[plE,tE]
   rcases h with ⟨rfl,rfl,_⟩ | ⟨hk,σ1,subs',σ2,env2,decls',As',cs',Ad',cd',At',ct',hs,hd,hds,_⟩
   ·show (zU5 file t _ σ.ρ).twice=_
    rw[yL6]
    simp
   ·rw[if_neg hk,if_neg hk,h2 _ _ _ _ _ _ hds]
    rcases hd with ⟨rfl,hd⟩ | ⟨hk3,rfl,rfl⟩
    ·obtain⟨_,_,q3⟩:=yP9 hd
     rw[q3,h1 _ _ _ _ _ _ _ _ hs,yD2]
     simp only[decide_true,Bool.true_and]
     generalize (dupB (zC9 (plDs decls))||(zC9 (plDs decls)).any fun x=>decide (x∈zL3 (plDs decls)))=q
     cases q <;> cases σ.ρ.twice <;> cases tEs (plEs subs) <;> rfl
    ·rw[h1 _ _ _ _ _ _ _ _ hs,decide_eq_false hk3,Bool.false_and,Bool.or_false,Bool.or_assoc])
  (fun k p l a b As cs subs Ab cb body At ct tail Al cl lead tr pos h1 h2 env lp file σ σ' d' h=>by
   rw[VisD] at h
   rw[plD,tD]
   obtain⟨σ1,subs',body',As',cs',Ab',cb',At',ct',Al',cl',hs,hb,_⟩:=h
   rw[h2 _ _ _ _ _ _ hb,h1 _ _ _ _ _ _ _ _ hs,Bool.or_assoc])
  (fun i nm env lp file σ σ' l' h=>by
   rw[zW1] at h
   obtain⟨rfl,_⟩:=h
   rw[plEs,tEs,Bool.or_false])
  (fun e l h1 h2 i nm env lp file σ σ' l' h=>by
   rw[zW1] at h
   obtain⟨σ1,e1,r1,he,hl,_⟩:=h
   rw[plEs,tEs,h2 _ _ _ _ _ _ _ _ hl,h1 _ _ _ _ _ _ he,Bool.or_assoc])
  (fun env lp file σ σ' l' h=>by
   rw[zX7] at h
   obtain⟨rfl,_⟩:=h
   rw[plDs,tDs,Bool.or_false])
  (fun d l h1 h2 env lp file σ σ' l' h=>by
   rw[zX7] at h
   obtain⟨σ1,d1,r1,hd,hl,_⟩:=h
   rw[plDs,tDs,h2 _ _ _ _ _ _ hl,h1 _ _ _ _ _ _ hd,Bool.or_assoc])
theorem visFsT {R:RF}{env:List ScA}:∀ {fs:List FA}{i:Nat}{σ σ':GS Unit}{rs:List (List DA)},zO2 R U0 env i fs σ σ' rs→σ'.ρ.twice=(σ.ρ.twice||(fs.map plF).any fun f=>tDs f.decls)
 | [],i,σ,σ',rs,⟨h,_⟩=>by subst h;simp
 | f ::fs,i,σ,σ',rs,⟨σ1,d1,r1,h1,h2,_⟩=>by
   rw[visFsT h2,(visT R).2.2.2 _ _ _ _ _ _ _ h1,List.map_cons,List.any_cons,Bool.or_assoc]
   rfl
theorem zO3:∀ (l:List Tx),dupB l=false↔l.Nodup
 | []=>by simp[dupB]
 | x ::l=>by rw[dupB,Bool.or_eq_false_iff,zO3 l,List.nodup_cons,decide_eq_false_iff_not]
theorem yO0 (fs:List FA):∀ i,i≤fs.length→(twF fs i=false↔(∀ f∈fs.take i,dupB (f.imps.map (·.name))=false)∧dupB (zZ8 (fs.take i))=false∧(zZ8 (fs.take i)).any (fun x=>decide (x∈zW5 (fs.take i)))=false)
 | 0,_=>by simp[twF,zZ8,zI4,dupB]
 | i+1,hi=>by
   have hi':i < fs.length:=by omega
   have ih:=yO0 fs i (by omega)
   have ed:(fs.map (·.decls)).getD i []=fs[i].decls:=by
    rw[List.getD_eq_getElem?_getD,List.getElem?_map,List.getElem?_eq_getElem hi']
    rfl
   rw[twF,ed,zC2 (List.getElem?_eq_getElem hi'),zC1 hi',yY7 hi',okN,zN3,zN3,List.take_succ_eq_append_getElem hi']
   have e0:(((fs[i].imps.map (·.name)).all fun x=>!decide (x∈([]:List Tx))))=true:=by simp
   rw[e0,Bool.and_true,Bool.not_not]
   generalize (zZ7 fs[i].decls).map lblD=nw
   generalize zY2 fs[i].decls=nf
   generalize zZ8 (fs.take i)=N at ih
   generalize zW5 (fs.take i)=F at ih
   have hall:(∀ f∈fs.take i++ [fs[i]],dupB (f.imps.map (·.name))=false)↔(∀ f∈fs.take i,dupB (f.imps.map (·.name))=false)∧dupB (fs[i].imps.map (·.name))=false:=by
    simp only[List.mem_append,List.mem_singleton]
    exact⟨fun h=>⟨fun f hf=>h f (.inl hf),h _ (.inr rfl)⟩,fun⟨h1,h2⟩ f hf=>hf.elim (h1 f) fun e=>e▸h2⟩
   rw[hall,Bool.or_eq_false_iff,Bool.or_eq_false_iff,Bool.not_eq_false',Bool.and_eq_true,Bool.and_eq_true,Bool.not_eq_true',ih,zO3 nw,zO3 N,zO3 (fs[i].imps.map (·.name)),zO3 (N++nw),List.nodup_append]
   have hA:((N++nw).all fun x=>!decide (x∈F++nf))=true↔(N++nw).any (fun x=>decide (x∈F++nf))=false:=by
    simp only[List.all_eq_true,List.any_eq_false,Bool.not_eq_true',decide_eq_false_iff_not,decide_eq_true_eq]
   have hB:(nw.all fun x=>!decide (x∈N))=true↔∀ x∈nw,x∉N:=by
    simp only[List.all_eq_true,Bool.not_eq_true',decide_eq_false_iff_not]
   rw[hA,hB]
   constructor
   ·rintro⟨⟨⟨h1,h2⟩,h3⟩,⟨h4,h5,h6⟩,h7⟩
    exact⟨⟨h4,h7⟩,⟨h5,h1,fun x hx y hy e=>h2 y hy (e▸hx)⟩,h3⟩
   ·rintro⟨⟨h4,h7⟩,⟨h5,h1,h2⟩,h3⟩
    refine⟨⟨⟨h1,fun x hx hn=>h2 x hn x hx rfl⟩,h3⟩,⟨h4,h5,?_⟩,h7⟩
    simp only[List.any_eq_false,decide_eq_true_eq,List.mem_append] at h3 ⊢
    exact fun x hx hf=>h3 x (.inl hx) (.inl hf)
theorem zG6 (fs:List FA):zT5 (fs.map plF)=(zW5 fs,zZ8 fs):=by
 unfold zT5 zW5 zZ8 zI4
 rw[List.flatMap_map,List.flatMap_map,List.map_flatMap]
 have e:(fun f:FA=>zC9 (plF f).decls)=fun f=>(zZ7 f.decls).map lblD:=funext fun f=>zG5 f.decls
 rw[e]
 rfl
theorem yD3 (fs:List FA):twF fs fs.length=((fs.map plF).any (fun f=>dupB (f.imps.map (·.name)))||dupB (zT5 (fs.map plF)).2||(zT5 (fs.map plF)).2.any fun x=>decide (x∈(zT5 (fs.map plF)).1)):=by
 have h:=yO0 fs fs.length (Nat.le_refl _)
 rw[List.take_length] at h
 rw[zG6]
 have e:(fs.map plF).any (fun f=>dupB (f.imps.map (·.name)))=fs.any fun f=>dupB (f.imps.map (·.name)):=by
  rw[List.any_map]
  rfl
 rw[e]
 cases ht:twF fs fs.length with
 | false=>
   obtain⟨h1,h2,h3⟩:=h.1 ht
   simp only
   rw[h2,h3]
   have:fs.any (fun f=>dupB (f.imps.map (·.name)))=false:=by
    rw[List.any_eq_false]
    intro f hf
    rw[h1 f hf]
    decide
   rw[this]
   rfl
 | true=>
   symm
   cases h1:fs.any (fun f=>dupB (f.imps.map (·.name))) with
   | true=>rfl
   | false=>
     simp only
     cases h2:dupB (zZ8 fs) with
     | true=>rfl
     | false=>
       cases h3:(zZ8 fs).any (fun x=>decide (x∈zW5 fs)) with
       | true=>rfl
       | false=>
         have:=h.2 ⟨fun f hf=>by
          rw[List.any_eq_false] at h1
          simpa using h1 f hf,h2,h3⟩
         rw[ht] at this
         cases this
theorem zP2 {p:PA}{R:RF}{σ0 σ:GS Unit}{env:List ScA}{rs:List (List DA)}(hR:Root p R σ0 env)(hV:zO2 R U0 env 0 p.files σ0 σ rs):σ.ρ.twice=yJ9 (plP p).files:=by
 rw[visFsT hV,hR.tw,yD3]
 unfold yJ9 plP
 rfl
end Go.Proofs.YtdgehhgjgifikaaGreatDoor
