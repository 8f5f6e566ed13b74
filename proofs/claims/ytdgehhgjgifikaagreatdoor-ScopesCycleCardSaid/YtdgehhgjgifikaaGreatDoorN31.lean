/- What the claim needs of:Fcd ZP ZQ. -/
import Derived.Test.YtdgehhgjgifikaaGreatDoorN5
import Derived.Test.YtdgehhgjgifikaaGreatDoorN30
import Derived.Test.YtdgehhgjgifikaaGreatDoorN25
import Derived.Test.YtdgehhgjgifikaaGreatDoorN13
import Derived.Shelf.SlSortCmp.NoneTotal
namespace Go.Proofs.YtdgehhgjgifikaaGreatDoor
open Go.RowKit
section
variable {P:Program}{ops:Array Oper}{Q:Exit→Act→World→Prop}
def yI1 (f:Fact):Prop:=∀ v W W',f v W→BelowD W.heap.size W W'→f v W'
theorem zY9 (u:Value):yI1 (isv u):=fun _ _ _ h _=>h
theorem xX2:yI1 nof:=fun _ _ _ h _=>h
def OneOkD (P:Program)(ops:Array Oper)(F:List Fact)(z:Nat)(w0:World)(a:Act)(i:Nat)(o:Oper)(f:Fact):Prop:=
 ∀ (A:Act) (W:World) (K:Act→World→Prop) (Q:Exit→Act→World→Prop),BelowD z w0 W→
   (∀ x v,zV1 ops x=true→nth a.tmps.toList x=some v→A.tmps[x]? = some v)→
   (∀ e d,zV3 ops 3 i e=true→zS5 ops e=some d→∃ v,A.tmps[d]? = some v∧(F.getD e nof) v W)→
   (∀ j d v,(j == i||zV3 ops 3 j i)=true→zS5 ops j=some d→nth a.tmps.toList d=some v→A.tmps[d]? = some v)→
   (∀ v W',f v W'→BelowD W.heap.size W W'→K (A.put o.dst v) W')→
   match o.guard with
   | none=>o.wp P A W K Q
   | some (g,want)=>∃ u d,zS5 ops g=some d∧A.tmps[d]? = some u∧yA0 (isB want u) (o.wp P A W K Q) (f undef W)
def xX3 (P:Program)(ops:Array Oper)(F:List Fact)(z:Nat)(w0:World)(a:Act):Nat→List Oper→List Fact→Prop
 | i,o ::os,f ::fs=>OneOkD P ops F z w0 a i o f∧xX3 P ops F z w0 a (i+1) os fs
 | _,[],[]=>True
 | _,_,_=>False
def zE5:List Fact→Prop
 | []=>True
 | f ::fs=>yI1 f∧zE5 fs
structure HeldD (ops:Array Oper)(F:List Fact)(z:Nat)(w0:World)(a:Act)(L:Array Bool)(A:Act)(W:World):Prop where
 size:L.size=ops.size
 below:BelowD z w0 W
 len:A.tmps.size=a.tmps.size
 defers:A.defers=a.defers
 same:∀ x,zV1 ops x=true→A.tmps[x]? = a.tmps[x]?
 late:∀ i d,L.getD i false=false→zS5 ops i=some d→A.tmps[d]? = a.tmps[d]?
 closed:∀ i e,L.getD i false=true→zX3 ops i e=true→L.getD e false=true
 fact:∀ i d,L.getD i false=true→zS5 ops i=some d→∃ v,A.tmps[d]? = some v∧(F.getD i nof) v W
theorem HeldD.closedN {ops:Array Oper}{F:List Fact}{z:Nat}{w0:World}{a:Act}{L:Array Bool}{A:Act}{W:World}(h:HeldD ops F z w0 a L A W):∀ n i e,L.getD i false=true→zV3 ops n i e=true→L.getD e false=true
 | 0,i,e,hi,hw=>h.closed i e hi hw
 | n+1,i,e,hi,hw=>by
   unfold zV3 at hw
   rcases Bool.or_eq_true _ _▸hw with h1 | h1
   ·exact h.closed i e hi h1
   ·cases ho:ops.toList[i]? with
    | none=>rw[ho] at h1;cases h1
    | some o=>
      rw[ho] at h1
      obtain⟨x,hx,hy⟩:=List.any_eq_true.1 h1
      obtain⟨h2,h3⟩:=Bool.and_eq_true _ _▸hy
      refine h.closedN n x.on e (h.closed i x.on hi ?_) h3
      unfold zX3
      rw[ho]
      exact List.any_eq_true.2 ⟨x,hx,by simp[h2]⟩
theorem yO4 {ops:Array Oper}{F:List Fact}{z:Nat}{w0:World}{a:Act}:∀ {os:List Oper}{fs:List Fact}{k:Nat},xX3 P ops F z w0 a k os fs→∀ {i:Nat}{o:Oper},os[i]? = some o→∃ f,fs[i]? = some f∧OneOkD P ops F z w0 a (k+i) o f
 | [],fs,k,_,i,o,ho=>by simp at ho
 | x ::os,[],k,h,i,o,ho=>h.elim
 | x ::os,f ::fs,k,h,i,o,ho=>by
   cases i with
   | zero=>
     simp only[List.getElem?_cons_zero,Option.some.injEq] at ho
     subst ho
     exact⟨f,rfl,h.1⟩
   | succ i=>
     obtain⟨g,h1,h2⟩:=yO4 h.2 (i:=i) (by simpa using ho)
     exact⟨g,by simpa using h1,by rw[show k+(i+1)=k+1+i by omega];exact h2⟩
theorem zB1:∀ {fs:List Fact},zE5 fs→∀ i,yI1 (fs.getD i nof)
 | [],_,i=>by simpa using xX2
 | f ::fs,h,0=>by simpa using h.1
 | f ::fs,h,i+1=>by simpa using zB1 h.2 i
theorem HeldD.put {ops:Array Oper}{F:List Fact}{z:Nat}{w0:World}{a:Act}{L:Array Bool}{A:Act}{W W':World}(hz:z≤w0.heap.size)(hmono:zE5 F)(hdis:zU2 (ops.toList.map (·.dst))=true)(h:HeldD ops F z w0 a L A W)
  {i:Nat}{o:Oper}(ho:ops[i]? = some o)(hd:(o.after.all fun e=>!Region.binds .any e||L.getD e.on false)=true)(hsz:∀ d,o.dst=some d→d < a.tmps.size){v:Value}
  (hv:(F.getD i nof) v W')(hb:BelowD W.heap.size W W'):HeldD ops F z w0 a (L.setIfInBounds i true) (A.put o.dst v) W':=by
 have hi:i < ops.size:=(Array.getElem?_eq_some_iff.1 ho).1
 have ho':ops.toList[i]? = some o:=by rw[Array.getElem?_toList];exact ho
 have hdst:zS5 ops i=o.dst:=by unfold zS5;rw[ho'];rfl
 have hset:∀ k,k≠i→(L.setIfInBounds i true).getD k false=L.getD k false:=fun k hk=>by
  simp[Array.getElem?_setIfInBounds_ne (Ne.symm hk)]
 have hput:∀ x,o.dst≠some x→(A.put o.dst v).tmps[x]? = A.tmps[x]?:=fun x hx=>by
  cases hod:o.dst with
  | none=>rfl
  | some d=>
    have hne:d≠x:=fun e=>hx (by rw[hod,e])
    simp[Act.put,Array.getElem?_setIfInBounds_ne hne]
 have hpi:∀ d,o.dst=some d→(A.put o.dst v).tmps[d]? = some v:=fun d hd=>by
  have hlt:d < A.tmps.size:=by rw[h.len];exact hsz d hd
  rw[hd]
  simp[Act.put,hlt]
 refine⟨by simpa using h.size,h.below.trans (hb.mono (Nat.le_trans hz h.below.size)),?_,?_,?_,?_,?_,?_⟩
 ·rw[←h.len];cases o.dst <;> simp[Act.put]
 ·rw[←h.defers];cases o.dst <;> simp[Act.put]
 ·intro x hx
  rw[hput x ?_,h.same x hx]
  intro hod
  unfold zV1 at hx
  rw[List.all_eq_true] at hx
  have:=hx o (List.mem_of_getElem? ho')
  rw[hod] at this
  simp at this
 ·intro k d hk hkd
  have hki:k≠i:=fun e=>by
   subst e
   have:k < L.size:=by rw[h.size];exact hi
   simp[this] at hk
  rw[hset k hki] at hk
  rw[hput d (fun hod=>hki ?_),h.late k d hk hkd]
  exact zT1 hdis hkd (show (ops.toList[i]?).bind (·.dst)=some d by rw[ho'];exact hod)
 ·intro k e hk hke
  by_cases he:e=i
  ·subst he
   have:e < L.size:=by rw[h.size];exact hi
   simp[this]
  ·rw[hset e he]
   by_cases hki:k=i
   ·subst hki
    unfold zX3 at hke
    rw[ho'] at hke
    obtain⟨x,hx,hy⟩:=List.any_eq_true.1 hke
    obtain⟨h1,h2⟩:=Bool.and_eq_true _ _▸hy
    rw[Array.all_eq_true'] at hd
    have h3:=hd x (by simpa using hx)
    rw[h1] at h3
    have h4:x.on=e:=by simpa using h2
    rw[h4] at h3
    simpa using h3
   ·rw[hset k hki] at hk
    exact h.closed k e hk hke
 ·intro k d hk hkd
  by_cases hki:k=i
  ·subst hki
   exact⟨v,hpi d (hdst▸hkd),hv⟩
  ·rw[hset k hki] at hk
   obtain⟨u,h1,h2⟩:=h.fact k d hk hkd
   refine⟨u,?_,zB1 hmono k _ _ _ h2 hb⟩
   rw[hput d (fun hod=>hki ?_),h1]
   exact zT1 hdis hkd (show (ops.toList[i]?).bind (·.dst)=some d by rw[ho'];exact hod)
theorem zB2 {id:Nat}{a:Act}{w:World}(hm:P.follows .mixedOrders=true)(F:List Fact)(z:Nat)(w0:World)(hz:z≤w0.heap.size)(hw:BelowD z w0 w.drew)(hpos0:(ops.size == 0)=false)
  (hdis:zU2 (ops.toList.map (·.dst))=true)(hlt:dstLt ops a.tmps.size=true)(hwf:yM4 ops=true)(hlast:zD4 ops=true)
  (hmono:zE5 F)(steps0:xX3 P ops F z w0 a 0 (zF8 ops.toList) F)(hlen0:(zF8 ops.toList).length=F.length)(o:Oper)(ho0:yM5 ops.toList=some o)(hg:o.guard=none)
  (fin0:∀ W,BelowD z w0 W→∀ G:Act→Prop,(∀ A,o.wp P A W (fun A' W'=>Q .normal A' W') Q→G A)→zX1 W G (zF8 ops.toList) F a):(Code.region id ops true).wp P Q a w:=by
 have steps:=steps0
 have hlen:=hlen0
 have fin:=fun W hW=>fin0 W hW (fun A=>o.wp P A W (fun A' W'=>Q .normal A' W') Q) (fun _ h=>h)
 rw[zO7] at steps hlen
 simp only[zO7] at fin
 have ho:ops.toList.getLast? = some o:=(zE3 _).symm.trans ho0
 have hpos:0 < ops.size:=by have:=beq_eq_false_iff_ne.1 hpos0;omega
 have hlst:ops.toList[ops.size-1]? = some o:=by rw[←Array.length_toList,←List.getLast?_eq_getElem?];exact ho
 have hpre:∀ i,i < ops.size-1→ops.toList.dropLast[i]? = ops.toList[i]?:=fun i hi=>by
  rw[List.dropLast_eq_take,List.getElem?_take]
  simp only[Array.length_toList]
  rw[if_pos hi]
 have hpre2:∀ i,ops.size-1≤i→ops.toList.dropLast[i]? = none:=fun i hi=>by
  rw[List.getElem?_eq_none_iff,List.length_dropLast,Array.length_toList]
  exact hi
 refine zR0 hm (fun L A W=>(L.getD (ops.size-1) false=false∧HeldD ops F z w0 a L A W)∨(L.size=ops.size∧(∀ i,i < ops.size→L.getD i false=true)∧Q .normal A W)) ?_ ?_ ?_ hwf ?_
 ·rintro L A W (⟨_,h⟩ | ⟨h,_⟩)
  ·exact h.size
  ·exact h
 ·refine .inl ⟨?_,by simp,hw,rfl,rfl,fun _ _=>rfl,fun _ _ _ _=>rfl,fun i e h _=>?_,fun i d h _=>?_⟩
  ·simp only[Array.getD_eq_getD_getElem?,Array.getElem?_replicate]
   split <;> rfl
  all_goals
   exfalso
   simp only[Array.getD_eq_getD_getElem?,Array.getElem?_replicate] at h
   split at h <;> simp at h
 ·intro i oi ho1 L A W hL hdep hI
  have hi:i < ops.size:=(Array.getElem?_eq_some_iff.1 ho1).1
  rcases hI with ⟨hf,hI⟩ | ⟨hs,hall,_⟩
  rotate_left
  ·exfalso
   have h1:=hall i hi
   have:i < L.size:=by rw[hs];exact hi
   simp[this] at hL h1
   rw[hL] at h1
   cases h1
  have hLi:L.getD i false=false:=by
   have:i < L.size:=by rw[hI.size];exact hi
   simpa[this] using hL
  have ho':ops.toList[i]? = some oi:=by rw[Array.getElem?_toList];exact ho1
  have hsz:∀ d,oi.dst=some d→d < a.tmps.size:=fun d hd=>by
   have:=(List.all_eq_true.1 hlt) oi (List.mem_of_getElem? ho')
   rw[hd] at this
   simpa using this
  have hdirect:∀ e,zX3 ops i e=true→L.getD e false=true:=fun e he=>by
   unfold zX3 at he
   rw[ho'] at he
   obtain⟨x,hx,hy⟩:=List.any_eq_true.1 he
   obtain⟨h2,h3⟩:=Bool.and_eq_true _ _▸hy
   rw[Array.all_eq_true'] at hdep
   have h4:=hdep x (by simpa using hx)
   rw[h2] at h4
   have h5:x.on=e:=by simpa using h3
   rw[h5] at h4
   simpa using h4
  have hdirN:∀ n e,zV3 ops n i e=true→L.getD e false=true:=fun n e he=>by
   cases n with
   | zero=>exact hdirect e he
   | succ n=>
     unfold zV3 at he
     rcases Bool.or_eq_true _ _▸he with h2 | h2
     ·exact hdirect e h2
     ·rw[ho'] at h2
      obtain⟨x,hx,hy⟩:=List.any_eq_true.1 h2
      obtain⟨h3,h4⟩:=Bool.and_eq_true _ _▸hy
      refine hI.closedN n x.on e (hdirect x.on ?_) h4
      unfold zX3
      rw[ho']
      exact List.any_eq_true.2 ⟨x,hx,by simp[h3]⟩
  by_cases hil:i=ops.size-1
  ·subst hil
   obtain rfl:oi=o:=Option.some.inj (ho'.symm.trans hlst)
   have hall:∀ j,j < ops.size-1→L.getD j false=true:=fun j hj=>hdirN 9 j ((List.all_eq_true.1 hlast) j (List.mem_range.2 hj))
   have hfin:=zP9 (A:=A) ops.toList.dropLast F a hlen (fin W hI.below) hI.len hI.defers (fun j d hd=>by
     by_cases hj:j < ops.size-1
     ·rw[hpre j hj] at hd
      exact hI.fact j d (hall j hj) hd
     ·rw[hpre2 j (by omega)] at hd
      cases hd)
    (fun x hx=>by
     by_cases hod:oi.dst=some x
     ·exact hI.late (ops.size-1) x hf (by unfold zS5;rw[hlst];exact hod)
     ·refine hI.same x ?_
      unfold zV1
      rw[List.all_eq_true] at hx ⊢
      intro y hy
      have hsp:ops.toList=ops.toList.dropLast++ [oi]:=by
       obtain⟨ys,hys⟩:=List.getLast?_eq_some_iff.1 ho
       rw[hys]
       simp
      rw[hsp] at hy
      rcases List.mem_append.1 hy with h | h
      ·exact hx y h
      ·rw[List.mem_singleton.1 h]
       simpa using hod)
   unfold Region.wanted
   rw[hg]
   simp only[if_true]
   refine .inl (Oper.wp_mono (fun A' W' h=>.inr ⟨by simpa using hI.size,fun j hj=>?_,h⟩) hfin)
   by_cases hj2:j=ops.size-1
   ·subst hj2
    have:ops.size-1 < L.size:=by rw[hI.size];exact hj
    simp[this]
   ·have h1:=hall j (by omega)
    have h2:(L.setIfInBounds (ops.size-1) true).getD j false=L.getD j false:=by simp[Array.getElem?_setIfInBounds_ne (Ne.symm hj2)]
    rw[h2]
    exact h1
  ·have hi1:i < ops.size-1:=by omega
   obtain⟨f,hf2,h1⟩:=yO4 steps ((hpre i hi1).trans ho')
   rw[Nat.zero_add] at h1
   have hfD:F.getD i nof=f:=by rw[List.getD_eq_getElem?_getD,hf2];rfl
   have hput:∀ v W',f v W'→BelowD W.heap.size W W'→((L.setIfInBounds i true).getD (ops.size-1) false=false∧HeldD ops F z w0 a (L.setIfInBounds i true) (A.put oi.dst v) W')∨((L.setIfInBounds i true).size=ops.size∧(∀ j,j < ops.size→(L.setIfInBounds i true).getD j false=true)∧Q .normal (A.put oi.dst v) W'):=fun v W' hv hb=>
    .inl ⟨by simpa[Array.getElem?_setIfInBounds_ne hil] using hf,hI.put hz hmono hdis ho1 hdep hsz (by rw[hfD];exact hv) hb⟩
   have h2:=h1 A W (fun A' W'=>((L.setIfInBounds i true).getD (ops.size-1) false=false∧HeldD ops F z w0 a (L.setIfInBounds i true) A' W')∨((L.setIfInBounds i true).size=ops.size∧(∀ j,j < ops.size→(L.setIfInBounds i true).getD j false=true)∧Q .normal A' W')) Q hI.below
    (fun x v hx hv=>by rw[hI.same x hx,←Array.getElem?_toList,←zJ9];exact hv)
    (fun e d he hd=>hI.fact e d (hdirN 3 e he) hd)
    (fun j d v hj hd hv=>by
     rw[hI.late j d ?_ hd,←Array.getElem?_toList,←zJ9]
     ·exact hv
     ·rcases Bool.or_eq_true _ _▸hj with h3 | h3
      ·have:j=i:=by simpa using h3
       subst this
       exact hLi
      ·cases hlj:L.getD j false with
       | false=>rfl
       | true=>rw[hI.closedN 3 j i hlj h3] at hLi;cases hLi)
    hput
   unfold Region.wanted
   cases hgi:oi.guard with
   | none=>
     rw[hgi] at h2
     simp only[if_true]
     exact .inl h2
   | some gw=>
     obtain⟨g,want⟩:=gw
     rw[hgi] at h2
     obtain⟨u,d,h3,h4,h5⟩:=h2
     have hy:(yielded ops A.tmps g == some want)=isB want u:=by
      unfold yielded
      unfold zS5 at h3
      rw[←Array.getElem?_toList,h3]
      simp only[Option.bind_some,h4]
      cases u <;> first | rfl | (rename_i b;cases b <;> cases want <;> rfl)
     simp only[hy]
     cases hbb:isB want u with
     | true=>
       rw[hbb] at h5
       simp only[if_true]
       exact .inl h5
     | false=>
       rw[hbb] at h5
       simp only[Bool.false_eq_true,if_false]
       exact hput _ _ h5 (BelowD.refl _ _)
 ·rintro L A W hr (⟨hf,_⟩ | ⟨_,_,h⟩)
  ·have:=hr (ops.size-1) (by omega)
   rw[hf] at this
   cases this
  ·exact h
end
open Go.Sort Go.Shelf
theorem xX4 (a:List UInt8)(w:World) :
  Calls Tryz.prog 83 #[.string ⟨a.toArray⟩] w fun e w'=>e=.returned (.bool false)∧w'=w:=by
 go_enter Tryz.func83,Tryz.ntmps83
 go_wp2
 go_ret
 exact⟨by simp,rfl⟩
theorem cmpS_any (a b:List UInt8)(w:World) :
  Calls Tryz.prog 50 #[.string ⟨a.toArray⟩,.string ⟨b.toArray⟩] w fun e w'=>e=.returned (.int .i64 (scmp a b))∧w'=w:=by
 go_enter Tryz.func50,Tryz.ntmps50
 go_wp2_with (go_at_call 83;refine(xX4 _ _).mono ?_;rintro e w' ⟨rfl,rfl⟩)
 ·have h:Op.bytesLess a b=true:=by assumption
  go_ret
  exact⟨by simp[scmp,h],rfl⟩
 ·have h:Op.bytesLess a b=false:=by assumption
  have h':(!a == b)=true:=by assumption
  go_ret
  have h2:¬ a=b:=by simpa using h'
  exact⟨by simp[scmp,h,h2],rfl⟩
 ·have h:Op.bytesLess a b=false:=by assumption
  have h':(!a == b)=false:=by assumption
  go_ret
  have h2:a=b:=by simpa using h'
  exact⟨by simp only[scmp,h];simp[h2],rfl⟩
def orL:List Int→Int
 | []=>0
 | x ::r=>if x=0 then orL r else x
def encZ (n:Int):List Value:=[.int .i64 n]
theorem yI2:∀ {l:List Int}{k:Nat}(h:k < l.length),(∀ x∈l.take k,x=0)→l[k]≠0→orL l=l[k]
 | x ::l,0,_,_,hn=>by
   simp only[List.getElem_cons_zero] at hn ⊢
   rw[orL,if_neg hn]
 | x ::l,k+1,h,hz,hn=>by
   simp only[List.getElem_cons_succ] at hn ⊢
   rw[orL,if_pos (hz x (by simp))]
   exact yI2 (by simpa using h) (fun y hy=>hz y (by simp[hy])) hn
theorem yI3:∀ {l:List Int},(∀ x∈l,x=0)→orL l=0
 | [],_=>rfl
 | x ::l,h=>by rw[orL,if_pos (h x (by simp)),yI3 fun y hy=>h y (by simp[hy])]
theorem Or_any (A:Option Addr)(c:Nat)(l:List Int)(w:World)(hA:Sl w w.heap.size 1 encZ A l)(hl:l.length≤1099511627776) :
  Calls Tryz.prog 49 #[.slice A l.length c] w fun e w'=>e=.returned (.int .i64 (orL l))∧w'=w:=by
 go_enter Tryz.func49,Tryz.ntmps49
 go_wp2
 go_loopw [8] (fun iv wr=>∃ k:Nat,k≤l.length∧iv=.int .i64 (k:Nat)∧wr=w∧Hid (∀ x∈l.take k,x=0)) (fun iv _=>l.length-(intOf iv).toNat)
 case atStart=>exact⟨0,Nat.zero_le _,rfl,rfl,Lib.hid (by simp)⟩
 case round=>
  obtain⟨k,hk,rfl,rfl,HZ⟩:=hrel
  by_cases hlt:k < l.length
  ·have hlt':(k:Int) < (l.length:Int):=by omega
   obtain⟨bb,off,hA1,hbW,hc⟩:=hA.at_ hlt
   have c0:=hc 0 _ rfl
   simp only[Nat.mul_one,Nat.add_zero] at c0
   have HTk:=Lib.hid (List.take_succ_eq_append_getElem hlt)
   have HO:=Lib.hid (yI2 hlt HZ.out)
   generalize l[k]=y at c0 HTk HO
   clear hc
   by_cases hy:y=0
   ·subst hy
    go_wp2
    go_roundw
    case rel=>refine⟨k+1,by omega,by go_num,(by first | rfl | trivial),Lib.hid (fun x hx=>by
     rw[HTk.out] at hx
     rcases List.mem_append.1 hx with h | h
     ·exact HZ.out x h
     ·exact List.mem_singleton.1 h)⟩
    case measure=>simp[intOf];omega
   ·have hy':(y != 0)=true:=by simpa using hy
    have HR:=Lib.hid (HO.out hy)
    clear hy HO
    go_wp2
    go_ret
    exact⟨by rw[HR.out];rfl,rfl⟩
  ·obtain rfl:k=l.length:=by omega
   have HR:=Lib.hid (yI3 (l:=l) fun x hx=>HZ.out x (by rw[List.take_length];exact hx))
   go_wp2
   go_ret
   exact⟨by rw[HR.out];rfl,rfl⟩
def zJ2 (x:Df):List Value:=[.int .i64 x.file,.int .i64 x.pos,.string ⟨x.name.toArray⟩,.int .i64 x.kind]
def dcmp (x y:Df):Int:=orL [cmpI x.file y.file,cmpI x.pos y.pos,scmp x.name y.name,cmpI x.kind y.kind]
theorem OrD_any {W:World}{g:Nat}{x y:Df}(h:Blk W g 3 #[.int .i64 (cmpI x.file y.file),.int .i64 (cmpI x.pos y.pos),.int .i64 (scmp x.name y.name),.int .i64 (cmpI x.kind y.kind)]) :
  Calls Tryz.prog 49 #[.slice (some ⟨g,0,none⟩) 4 4] W fun e w'=>e=.returned (.int .i64 (dcmp x y))∧w'=W:=by
 refine Or_any (some ⟨g,0,none⟩) 4 [cmpI x.file y.file,cmpI x.pos y.pos,scmp x.name y.name,cmpI x.kind y.kind] W (.inr ⟨g,0,rfl,h.lt,fun i hi j v hv=>?_⟩) (by simp)
 match j,hv with
 | 0,hv=>
   simp only[encZ,List.getElem?_cons_zero,Option.some.injEq] at hv
   subst hv
   match i,hi with
   | 0,_=>exact h.cell 0
   | 1,_=>exact h.cell 1
   | 2,_=>exact h.cell 2
   | 3,_=>exact h.cell 3
   | n+4,h=>simp at h;omega
set_option maxRecDepth 100000 in
theorem zI9 {o:Oper}{P:Program}{Q:Exit→Act→World→Prop}{K:Act→World→Prop}{W:World}{fs:List Fact}{G:Act→Prop}(aa ab ac ad ae af ag ah ai aj ak al am an ao ap aq ar au av aw ax ay az aA aB aC aD aE aF aG aH aI aJ aK aL aM aN aO aP aQ aR aS aT aU aV aW aX aY:Value)(hG:∀ A,o.wp P A W K Q→G A)(h:o.wp P (Act.mk #[aa,ab,ac,ad,ae,aD,aE,aF,aG,aH,aI,aJ,aK,aL,aM,aN,aO,aP,aQ,aR,aS,aT,aU,aV,aW,aX,aY] []) W K Q):zX1 W G [] fs (Act.put (Act.put (Act.put (Act.put (Act.put (Act.put (Act.put (Act.put (Act.put (Act.put (Act.put (Act.put (Act.put (Act.put (Act.put (Act.put (Act.put (Act.put (Act.put (Act.put (Act.put (Act.put (Act.mk #[aa,ab,ac,ad,ae,af,ag,ah,ai,aj,ak,al,am,an,ao,ap,aq,ar,au,av,aw,ax,ay,az,aA,aB,aC] []) (some 5) aD) (some 6) aE) (some 7) aF) (some 8) aG) (some 9) aH) (some 10) aI) (some 11) aJ) (some 12) aK) (some 13) aL) (some 14) aM) (some 15) aN) (some 16) aO) (some 17) aP) (some 18) aQ) (some 19) aR) (some 20) aS) (some 21) aT) (some 22) aU) (some 23) aV) (some 24) aW) (some 25) aX) (some 26) aY):=
 zT9 (by kernel_rfl) hG h
set_option maxRecDepth 100000 in
set_option maxHeartbeats 4000000 in
theorem cmpD_any (x y:Df)(w:World):Calls Tryz.prog 48 #[.agg (zJ2 x).toArray,.agg (zJ2 y).toArray] w fun e w'=>e=.returned (.int .i64 (dcmp x y))∧BelowD w.heap.size w w':=by
 have hb:=(((BelowD.refl w.heap.size w).alloc (Nat.le_refl _) (.cells #[.int .i64 x.file,.int .i64 x.pos,.string ⟨x.name.toArray⟩,.int .i64 x.kind] 42)).alloc (by simp) (.cells #[.int .i64 y.file,.int .i64 y.pos,.string ⟨y.name.toArray⟩,.int .i64 y.kind] 42))
 have V1:=(Blk.new w 42 #[.int .i64 x.file,.int .i64 x.pos,.string ⟨x.name.toArray⟩,.int .i64 x.kind]).alloc (.cells #[.int .i64 y.file,.int .i64 y.pos,.string ⟨y.name.toArray⟩,.int .i64 y.kind] 42)
 have V2:=Blk.new (w.alloc (.cells #[.int .i64 x.file,.int .i64 x.pos,.string ⟨x.name.toArray⟩,.int .i64 x.kind] 42)) 42 #[.int .i64 y.file,.int .i64 y.pos,.string ⟨y.name.toArray⟩,.int .i64 y.kind]
 rw[World.size_alloc] at V2
 obtain⟨w2,hw2⟩:∃ w2,(w.alloc (.cells #[.int .i64 x.file,.int .i64 x.pos,.string ⟨x.name.toArray⟩,.int .i64 x.kind] 42)).alloc (.cells #[.int .i64 y.file,.int .i64 y.pos,.string ⟨y.name.toArray⟩,.int .i64 y.kind] 42)=w2:=⟨_,rfl⟩
 rw[hw2] at hb V1 V2
 have hz2:w2.heap.size=w.heap.size+2:=by rw[←hw2];simp
 obtain⟨x0,x1,x2,x3⟩:=zC4 V1
 obtain⟨y0,y1,y2,y3⟩:=zC4 V2
 have HB:=Lib.hid hb
 dsimp only[zJ2]
 clear V1 V2 hb
 go_enter Tryz.func48,Tryz.ntmps48
 go_upto_region 1 with fail
 clear hw2
 apply zB2 (by kernel_rfl) [isv _,isv _,isv _,isv _,isv _,isv _,isv _,isv _,isv _,isv _,isv _,isv _,isv _,isv _,isv _,isv _,isv _,isv _,isv _,isv _,(fun v W=>∃ g,v=.slice (some ⟨g,0,none⟩) 4 4∧Blk W g 3 #[.int .i64 (cmpI x.file y.file),.int .i64 (cmpI x.pos y.pos),.int .i64 (scmp x.name y.name),.int .i64 (cmpI x.kind y.kind)]),isv _] w2.heap.size w2 (Nat.le_refl _) (BelowD.refl _ _).drew (by kernel_rfl) (by kernel_rfl) (by kernel_rfl) (by kernel_rfl) (by kernel_rfl) (And.intro (zY9 _) (And.intro (zY9 _) (And.intro (zY9 _) (And.intro (zY9 _) (And.intro (zY9 _) (And.intro (zY9 _) (And.intro (zY9 _) (And.intro (zY9 _) (And.intro (zY9 _) (And.intro (zY9 _) (And.intro (zY9 _) (And.intro (zY9 _) (And.intro (zY9 _) (And.intro (zY9 _) (And.intro (zY9 _) (And.intro (zY9 _) (And.intro (zY9 _) (And.intro (zY9 _) (And.intro (zY9 _) (And.intro (zY9 _) (And.intro (fun _ _ _ ⟨g,h1,h2⟩ hb=>⟨g,h1,h2.keep hb.toBelow⟩) (And.intro (zY9 _) trivial)))))))))))))))))))))) ?steps (by rfl) _ rfl rfl ?fin
 case steps=>
  refine(And.intro ?o0 (And.intro ?o1 (And.intro ?o2 (And.intro ?o3 (And.intro ?o4 (And.intro ?o5 (And.intro ?o6 (And.intro ?o7 (And.intro ?o8 (And.intro ?o9 (And.intro ?o10 (And.intro ?o11 (And.intro ?o12 (And.intro ?o13 (And.intro ?o14 (And.intro ?o15 (And.intro ?o16 (And.intro ?o17 (And.intro ?o18 (And.intro ?o19 (And.intro ?o20 (And.intro ?o21 trivial))))))))))))))))))))))
  case o0=>
   intro AA W KK QQ hB hs hd hl hk
   have sl2:=hs 2 _ (by kernel_rfl) rfl
   clear hs hd hl
   go_simp
   exact hk _ _ rfl (BelowD.refl _ _)
  case o1=>
   intro AA W KK QQ hB hs hd hl hk
   obtain⟨_,sl5,rfl⟩:=hd 0 5 (by kernel_rfl) rfl
   clear hs hd hl
   have hx:=hB.toBelow.cell (p:=⟨w.heap.size,0,none⟩) (by simp;omega)
   rw[x0] at hx
   go_simp
   exact hk _ _ rfl (BelowD.refl _ _)
  case o2=>
   intro AA W KK QQ hB hs hd hl hk
   have sl3:=hs 3 _ (by kernel_rfl) rfl
   clear hs hd hl
   go_simp
   exact hk _ _ rfl (BelowD.refl _ _)
  case o3=>
   intro AA W KK QQ hB hs hd hl hk
   obtain⟨_,sl7,rfl⟩:=hd 2 7 (by kernel_rfl) rfl
   clear hs hd hl
   have hx:=hB.toBelow.cell (p:=⟨(w.heap.size+1),0,none⟩) (by simp;omega)
   rw[y0] at hx
   go_simp
   exact hk _ _ rfl (BelowD.refl _ _)
  case o4=>
   intro AA W KK QQ hB hs hd hl hk
   obtain⟨_,sl6,rfl⟩:=hd 1 6 (by kernel_rfl) rfl
   obtain⟨_,sl8,rfl⟩:=hd 3 8 (by kernel_rfl) rfl
   clear hs hd hl
   go_simp
   refine(zE4 _ _ _).mono ?_
   rintro e w9 ⟨rfl,rfl⟩
   go_simp
   exact hk _ _ rfl (BelowD.refl _ _)
  case o5=>
   intro AA W KK QQ hB hs hd hl hk
   have sl2:=hs 2 _ (by kernel_rfl) rfl
   clear hs hd hl
   go_simp
   exact hk _ _ rfl (BelowD.refl _ _)
  case o6=>
   intro AA W KK QQ hB hs hd hl hk
   obtain⟨_,sl10,rfl⟩:=hd 5 10 (by kernel_rfl) rfl
   clear hs hd hl
   have hx:=hB.toBelow.cell (p:=⟨w.heap.size,1,none⟩) (by simp;omega)
   rw[x1] at hx
   go_simp
   exact hk _ _ rfl (BelowD.refl _ _)
  case o7=>
   intro AA W KK QQ hB hs hd hl hk
   have sl3:=hs 3 _ (by kernel_rfl) rfl
   clear hs hd hl
   go_simp
   exact hk _ _ rfl (BelowD.refl _ _)
  case o8=>
   intro AA W KK QQ hB hs hd hl hk
   obtain⟨_,sl12,rfl⟩:=hd 7 12 (by kernel_rfl) rfl
   clear hs hd hl
   have hx:=hB.toBelow.cell (p:=⟨(w.heap.size+1),1,none⟩) (by simp;omega)
   rw[y1] at hx
   go_simp
   exact hk _ _ rfl (BelowD.refl _ _)
  case o9=>
   intro AA W KK QQ hB hs hd hl hk
   obtain⟨_,sl11,rfl⟩:=hd 6 11 (by kernel_rfl) rfl
   obtain⟨_,sl13,rfl⟩:=hd 8 13 (by kernel_rfl) rfl
   clear hs hd hl
   go_simp
   refine(zE4 _ _ _).mono ?_
   rintro e w9 ⟨rfl,rfl⟩
   go_simp
   exact hk _ _ rfl (BelowD.refl _ _)
  case o10=>
   intro AA W KK QQ hB hs hd hl hk
   have sl2:=hs 2 _ (by kernel_rfl) rfl
   clear hs hd hl
   go_simp
   exact hk _ _ rfl (BelowD.refl _ _)
  case o11=>
   intro AA W KK QQ hB hs hd hl hk
   obtain⟨_,sl15,rfl⟩:=hd 10 15 (by kernel_rfl) rfl
   clear hs hd hl
   have hx:=hB.toBelow.cell (p:=⟨w.heap.size,2,none⟩) (by simp;omega)
   rw[x2] at hx
   go_simp
   exact hk _ _ rfl (BelowD.refl _ _)
  case o12=>
   intro AA W KK QQ hB hs hd hl hk
   have sl3:=hs 3 _ (by kernel_rfl) rfl
   clear hs hd hl
   go_simp
   exact hk _ _ rfl (BelowD.refl _ _)
  case o13=>
   intro AA W KK QQ hB hs hd hl hk
   obtain⟨_,sl17,rfl⟩:=hd 12 17 (by kernel_rfl) rfl
   clear hs hd hl
   have hx:=hB.toBelow.cell (p:=⟨(w.heap.size+1),2,none⟩) (by simp;omega)
   rw[y2] at hx
   go_simp
   exact hk _ _ rfl (BelowD.refl _ _)
  case o14=>
   intro AA W KK QQ hB hs hd hl hk
   obtain⟨_,sl16,rfl⟩:=hd 11 16 (by kernel_rfl) rfl
   obtain⟨_,sl18,rfl⟩:=hd 13 18 (by kernel_rfl) rfl
   clear hs hd hl
   go_simp
   refine(cmpS_any _ _ _).mono ?_
   rintro e w9 ⟨rfl,rfl⟩
   go_simp
   exact hk _ _ rfl (BelowD.refl _ _)
  case o15=>
   intro AA W KK QQ hB hs hd hl hk
   have sl2:=hs 2 _ (by kernel_rfl) rfl
   clear hs hd hl
   go_simp
   exact hk _ _ rfl (BelowD.refl _ _)
  case o16=>
   intro AA W KK QQ hB hs hd hl hk
   obtain⟨_,sl20,rfl⟩:=hd 15 20 (by kernel_rfl) rfl
   clear hs hd hl
   have hx:=hB.toBelow.cell (p:=⟨w.heap.size,3,none⟩) (by simp;omega)
   rw[x3] at hx
   go_simp
   exact hk _ _ rfl (BelowD.refl _ _)
  case o17=>
   intro AA W KK QQ hB hs hd hl hk
   have sl3:=hs 3 _ (by kernel_rfl) rfl
   clear hs hd hl
   go_simp
   exact hk _ _ rfl (BelowD.refl _ _)
  case o18=>
   intro AA W KK QQ hB hs hd hl hk
   obtain⟨_,sl22,rfl⟩:=hd 17 22 (by kernel_rfl) rfl
   clear hs hd hl
   have hx:=hB.toBelow.cell (p:=⟨(w.heap.size+1),3,none⟩) (by simp;omega)
   rw[y3] at hx
   go_simp
   exact hk _ _ rfl (BelowD.refl _ _)
  case o19=>
   intro AA W KK QQ hB hs hd hl hk
   obtain⟨_,sl21,rfl⟩:=hd 16 21 (by kernel_rfl) rfl
   obtain⟨_,sl23,rfl⟩:=hd 18 23 (by kernel_rfl) rfl
   clear hs hd hl
   go_simp
   refine(zE4 _ _ _).mono ?_
   rintro e w9 ⟨rfl,rfl⟩
   go_simp
   exact hk _ _ rfl (BelowD.refl _ _)
  case o20=>
   intro AA W KK QQ hB hs hd hl hk
   obtain⟨_,sl9,rfl⟩:=hd 4 9 (by kernel_rfl) rfl
   obtain⟨_,sl14,rfl⟩:=hd 9 14 (by kernel_rfl) rfl
   obtain⟨_,sl19,rfl⟩:=hd 14 19 (by kernel_rfl) rfl
   obtain⟨_,sl24,rfl⟩:=hd 19 24 (by kernel_rfl) rfl
   clear hs hd hl
   go_simp
   exact hk _ _ ⟨_,rfl,Blk.new _ _ _⟩ ((BelowD.refl _ _).alloc (Nat.le_refl _) _)
  case o21=>
   intro AA W KK QQ hB hs hd hl hk
   obtain⟨_,sl25,⟨g9,rfl,hG9⟩⟩:=hd 20 25 (by kernel_rfl) rfl
   clear hs hd hl
   go_simp
   refine(OrD_any hG9).mono ?_
   rintro e w9 ⟨rfl,rfl⟩
   go_simp
   exact hk _ _ rfl (BelowD.refl _ _)
 case fin=>
  intro wf hB GG hGG
  refine zZ0 5 rfl ?_
  refine zZ0 6 rfl ?_
  refine zZ0 7 rfl ?_
  refine zZ0 8 rfl ?_
  refine zZ0 9 rfl ?_
  refine zZ0 10 rfl ?_
  refine zZ0 11 rfl ?_
  refine zZ0 12 rfl ?_
  refine zZ0 13 rfl ?_
  refine zZ0 14 rfl ?_
  refine zZ0 15 rfl ?_
  refine zZ0 16 rfl ?_
  refine zZ0 17 rfl ?_
  refine zZ0 18 rfl ?_
  refine zZ0 19 rfl ?_
  refine zZ0 20 rfl ?_
  refine zZ0 21 rfl ?_
  refine zZ0 22 rfl ?_
  refine zZ0 23 rfl ?_
  refine zZ0 24 rfl ?_
  refine zZ9 25 rfl ?_
  rintro _ ⟨_,rfl,_⟩
  refine zZ0 26 rfl ?_
  refine zI9 _ _ _ _ _ _ _ _ _ _ _ _ _ _ _ _ _ _ _ _ _ _ _ _ _ _ _ _ _ _ _ _ _ _ _ _ _ _ _ _ _ _ _ _ _ _ _ _ _ hGG ?_
  go_wp2
  go_ret
  exact⟨rfl,HB.out.trans (hB.mono (by omega))⟩
theorem yS0 (a b:Int):cmpI a b < 0↔a < b:=by
 unfold cmpI
 by_cases h1:a < b
 ·simp[h1]
 ·by_cases h2:b < a <;> simp[h1,h2]
theorem zO4 (a b:Int):cmpI a b=0↔a=b:=by
 unfold cmpI
 by_cases h1:a < b
 ·rw[if_pos h1];omega
 ·by_cases h2:b < a
  ·rw[if_neg h1,if_pos h2];omega
  ·rw[if_neg h1,if_neg h2];omega
theorem scmp_neg (a b:Tx):scmp a b < 0↔a < b:=by
 unfold scmp
 rw[bytesLess_eq]
 by_cases h1:a < b
 ·simp[h1]
 ·rw[if_neg (by simpa using h1)]
  by_cases h2:a=b
  ·rw[if_pos h2];simp[h1]
  ·rw[if_neg h2];simp[h1]
theorem yO5 (a b:Tx):scmp a b=0↔a=b:=by
 unfold scmp
 rw[bytesLess_eq]
 by_cases h1:a < b
 ·have:a≠b:=fun e=>by subst e;exact List.lt_irrefl _ h1
  simp[h1,this]
 ·rw[if_neg (by simpa using h1)]
  by_cases h2:a=b
  ·rw[if_pos h2];simp[h2]
  ·rw[if_neg h2];simp[h2]
def LtD (a b:Df):Prop:=a.file < b.file∨a.file=b.file∧(a.pos < b.pos∨a.pos=b.pos∧(a.name < b.name∨a.name=b.name∧a.kind < b.kind))
theorem zH0 (a b:Df):befD a b=true↔LtD a b:=by
 unfold befD LtD
 by_cases h1:a.file=b.file
 ·rw[if_neg (by simpa using h1)]
  by_cases h2:a.pos=b.pos
  ·rw[if_neg (by simpa using h2),bytesLess_eq]
   simp[h1,h2]
  ·rw[if_pos h2,decide_eq_true_iff]
   simp[h1,h2]
 ·rw[if_pos h1,decide_eq_true_iff]
  simp[h1]
theorem dcmp_neg (a b:Df):dcmp a b < 0↔LtD a b:=by
 unfold dcmp LtD
 rw[orL]
 by_cases h1:a.file=b.file
 ·rw[if_pos ((zO4 _ _).2 h1),orL]
  by_cases h2:a.pos=b.pos
  ·rw[if_pos ((zO4 _ _).2 h2),orL]
   by_cases h3:a.name=b.name
   ·have hn:¬ a.name < b.name:=fun h=>by rw[h3] at h;exact List.lt_irrefl _ h
    rw[if_pos ((yO5 _ _).2 h3),orL]
    by_cases h4:a.kind=b.kind
    ·rw[if_pos ((zO4 _ _).2 h4)]
     simp only[orL]
     constructor
     ·intro h;omega
     ·rintro(h | ⟨_,h | ⟨_,h | ⟨_,h⟩⟩⟩)
      ·omega
      ·omega
      ·exact absurd h hn
      ·omega
    ·rw[if_neg (by rw[zO4];exact h4),yS0]
     constructor
     ·exact fun h=>.inr ⟨h1,.inr ⟨h2,.inr ⟨h3,h⟩⟩⟩
     ·rintro(h | ⟨_,h | ⟨_,h | ⟨_,h⟩⟩⟩)
      ·omega
      ·omega
      ·exact absurd h hn
      ·exact h
   ·rw[if_neg (by rw[yO5];exact h3),scmp_neg]
    constructor
    ·exact fun h=>.inr ⟨h1,.inr ⟨h2,.inl h⟩⟩
    ·rintro(h | ⟨_,h | ⟨_,h | ⟨h,_⟩⟩⟩)
     ·omega
     ·omega
     ·exact h
     ·exact absurd h h3
  ·rw[if_neg (by rw[zO4];exact h2),yS0]
   constructor
   ·exact fun h=>.inr ⟨h1,.inl h⟩
   ·rintro(h | ⟨_,h | ⟨h,_⟩⟩)
    ·omega
    ·exact h
    ·exact absurd h h2
 ·rw[if_neg (by rw[zO4];exact h1),yS0]
  constructor
  ·exact fun h=>.inl h
  ·rintro(h | ⟨h,_⟩)
   ·exact h
   ·exact absurd h h1
theorem xX5:ltOf dcmp=befD:=by
 funext a b
 rw[Bool.eq_iff_iff,zH0,←dcmp_neg]
 simp[ltOf]
theorem LtD.trans {a b c:Df}(h:LtD a b)(k:LtD b c):LtD a c:=by
 unfold LtD at *
 rcases h with h | ⟨h,h2⟩
 ·rcases k with k | ⟨k,_⟩
  ·exact .inl (by omega)
  ·exact .inl (by omega)
 ·rcases k with k | ⟨k,k2⟩
  ·exact .inl (by omega)
  ·refine .inr ⟨by omega,?_⟩
   rcases h2 with h2 | ⟨h2,h3⟩
   ·rcases k2 with k2 | ⟨k2,_⟩
    ·exact .inl (by omega)
    ·exact .inl (by omega)
   ·rcases k2 with k2 | ⟨k2,k3⟩
    ·exact .inl (by omega)
    ·refine .inr ⟨by omega,?_⟩
     rcases h3 with h3 | ⟨h3,h4⟩
     ·rcases k3 with k3 | ⟨k3,_⟩
      ·exact .inl (List.lt_trans h3 k3)
      ·exact .inl (k3▸h3)
     ·rcases k3 with k3 | ⟨k3,k4⟩
      ·exact .inl (h3▸k3)
      ·exact .inr ⟨h3.trans k3,by omega⟩
theorem LtD.irrefl (a:Df):¬ LtD a a:=by
 unfold LtD
 rintro(h | ⟨_,h | ⟨_,h | ⟨_,h⟩⟩⟩)
 ·omega
 ·omega
 ·exact List.lt_irrefl _ h
 ·omega
theorem LtD.total {a b:Df}(h:¬ LtD a b)(k:¬ LtD b a):a=b:=by
 unfold LtD at *
 have e1:a.file=b.file:=by
  rcases Int.lt_trichotomy a.file b.file with h1 | h1 | h1
  ·exact absurd (.inl h1) h
  ·exact h1
  ·exact absurd (.inl h1) k
 have e2:a.pos=b.pos:=by
  rcases Int.lt_trichotomy a.pos b.pos with h1 | h1 | h1
  ·exact absurd (.inr ⟨e1,.inl h1⟩) h
  ·exact h1
  ·exact absurd (.inr ⟨e1.symm,.inl h1⟩) k
 have e3:a.name=b.name:=by
  have n1:¬ a.name < b.name:=fun h1=>h (.inr ⟨e1,.inr ⟨e2,.inl h1⟩⟩)
  have n2:¬ b.name < a.name:=fun h1=>k (.inr ⟨e1.symm,.inr ⟨e2.symm,.inl h1⟩⟩)
  exact List.le_antisymm (by simpa using n2) (by simpa using n1)
 have e4:a.kind=b.kind:=by
  rcases Int.lt_trichotomy a.kind b.kind with h1 | h1 | h1
  ·exact absurd (.inr ⟨e1,.inr ⟨e2,.inr ⟨e3,h1⟩⟩⟩) h
  ·exact h1
  ·exact absurd (.inr ⟨e1.symm,.inr ⟨e2.symm,.inr ⟨e3.symm,h1⟩⟩⟩) k
 cases a
 cases b
 simp only at e1 e2 e3 e4
 subst e1 e2 e3 e4
 rfl
theorem yI4:SWO befD:=swo_of
 (fun x=>by rw[←Bool.not_eq_true,zH0];exact LtD.irrefl x)
 (fun x y z h k=>by rw[zH0] at *;exact h.trans k)
 (fun x y h k=>by rw[←Bool.not_eq_true,zH0] at h k;exact LtD.total h k)
theorem befD_tot (x y:Df)(h:befD x y=false)(k:befD y x=false):x=y:=by
 rw[←Bool.not_eq_true,zH0] at h k
 exact LtD.total h k
instance:Inhabited Df:=⟨⟨0,0,[],0⟩⟩
theorem xX6:∀ x,(zJ2 x).length=4:=fun _=>rfl
theorem yD6:∀ x,∀ v∈zJ2 x,v.oneCell'=true:=fun x v hv=>by
 simp only[zJ2,List.mem_cons,List.not_mem_nil,or_false] at hv
 rcases hv with rfl | rfl | rfl | rfl <;> rfl
theorem xX7 (v:Value)(l:List Df)(w:World)(base:Nat)(h:NewRowK w base 42 4 zJ2 v l)(hl:l.length≤1099511627776) :
  Calls Tryz.prog 47 #[v,.func (.func 48) #[] #[]] w (yJ8 w base 4 zJ2 befD v l):=by
 have hb:=yI4
 rw[←xX5] at hb ⊢
 exact xY2 Tryz.sortD 4 42 Tryz.isAgg42 Tryz.sizeOf42 zJ2 xX6 yD6 dcmp hb 48 (enters_of Tryz.func48 (by kernel_rfl) rfl)
  (fun x y W=>cmpD_any x y W) (fun p cap fv w=>(AnyF.slices_SortFunc_none Tryz.sortD p cap fv w).mono fun e w' ⟨h1,h2⟩=>⟨h1,h2.symm⟩) v l w base h hl
end Go.Proofs.YtdgehhgjgifikaaGreatDoor
