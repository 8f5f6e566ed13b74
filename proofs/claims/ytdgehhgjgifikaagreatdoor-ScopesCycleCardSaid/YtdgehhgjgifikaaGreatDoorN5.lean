/- What the claim needs of:Fcl. -/
import Derived.Test.YtdgehhgjgifikaaGreatDoorN4
namespace Go.Proofs.YtdgehhgjgifikaaGreatDoor
open Go.RowKit
section
variable {P:Program}{ops:Array Oper}{Q:Exit→Act→World→Prop}
def zD4 (ops:Array Oper):Bool:=(List.range (ops.size-1)).all fun i=>zV3 ops 9 (ops.size-1) i
def yM5:List Oper→Option Oper
 | []=>none
 | o ::l=>match yM5 l with
   | none=>some o
   | some x=>some x
def zF8:List Oper→List Oper
 | []=>[]
 | o ::l=>match l with
   | []=>[]
   | _ ::_=>o ::zF8 l
theorem zE3:∀ l:List Oper,yM5 l=l.getLast?
 | []=>rfl
 | [o]=>rfl
 | o ::x ::l=>by
   have h:=zE3 (x ::l)
   rw[List.getLast?_cons_cons,←h]
   show (match yM5 (x ::l) with | none=>some o | some y=>some y)=_
   cases hl:yM5 (x ::l) with
   | none=>
     rw[hl] at h
     have h2:=h.symm
     rw[List.getLast?_eq_none_iff] at h2
     cases h2
   | some y=>rfl
theorem zO7:∀ l:List Oper,zF8 l=l.dropLast
 | []=>rfl
 | [o]=>rfl
 | o ::x ::l=>by
   show o ::zF8 (x ::l)=_
   rw[zO7 (x ::l)]
   rfl
theorem zY1 {id:Nat}{a:Act}{w:World}(hm:P.follows .mixedOrders=true)(F:List Fact)(z:Nat)(w0:World)(hz:z≤w0.heap.size)(hw:Below z w0 w.drew)(hpos0:(ops.size == 0)=false)
  (hdis:zU2 (ops.toList.map (·.dst))=true)(hlt:dstLt ops a.tmps.size=true)(hwf:yM4 ops=true)(hlast:zD4 ops=true)
  (hmono:zD3 F)(steps0:AllOk P ops F z w0 a 0 (zF8 ops.toList) F)(hlen0:(zF8 ops.toList).length=F.length)(o:Oper)(ho0:yM5 ops.toList=some o)(hg:o.guard=none)
  (fin0:∀ W,Below z w0 W→∀ G:Act→Prop,(∀ A,o.wp P A W (fun A' W'=>Q .normal A' W') Q→G A)→zX1 W G (zF8 ops.toList) F a):(Code.region id ops true).wp P Q a w:=by
 have steps:=steps0
 have hlen:=hlen0
 have fin:=fun W hW=>fin0 W hW (fun A=>o.wp P A W (fun A' W'=>Q .normal A' W') Q) (fun _ h=>h)
 rw[zO7] at steps hlen
 simp only[zO7] at fin
 have ho:ops.toList.getLast? = some o:=(zE3 _).symm.trans ho0
 have hpos:0 < ops.size:=by have:=beq_eq_false_iff_ne.1 hpos0;omega
 have hlst:ops.toList[ops.size-1]? = some o:=by rw[←Array.length_toList,←List.getLast?_eq_getElem?];exact ho
 have hpre:∀ i,i < ops.size-1→ops.toList.dropLast[i]? = ops.toList[i]?:=fun i hi=>by
  rw[List.dropLast_eq_take,List.getElem?_take]
  simp only[Array.length_toList]
  rw[if_pos hi]
 have hpre2:∀ i,ops.size-1≤i→ops.toList.dropLast[i]? = none:=fun i hi=>by
  rw[List.getElem?_eq_none_iff,List.length_dropLast,Array.length_toList]
  exact hi
 refine zR0 hm (fun L A W=>(L.getD (ops.size-1) false=false∧Held ops F z w0 a L A W)∨(L.size=ops.size∧(∀ i,i < ops.size→L.getD i false=true)∧Q .normal A W)) ?_ ?_ ?_ hwf ?_
 ·rintro L A W (⟨_,h⟩ | ⟨h,_⟩)
  ·exact h.size
  ·exact h
 ·refine .inl ⟨?_,by simp,hw,rfl,rfl,fun _ _=>rfl,fun _ _ _ _=>rfl,fun i e h _=>?_,fun i d h _=>?_⟩
  ·simp only[Array.getD_eq_getD_getElem?,Array.getElem?_replicate]
   split <;> rfl
  all_goals
   exfalso
   simp only[Array.getD_eq_getD_getElem?,Array.getElem?_replicate] at h
   split at h <;> simp at h
 ·intro i oi ho1 L A W hL hdep hI
  have hi:i < ops.size:=(Array.getElem?_eq_some_iff.1 ho1).1
  rcases hI with ⟨hf,hI⟩ | ⟨hs,hall,_⟩
  rotate_left
  ·exfalso
   have h1:=hall i hi
   have:i < L.size:=by rw[hs];exact hi
   simp[this] at hL h1
   rw[hL] at h1
   cases h1
  have hLi:L.getD i false=false:=by
   have:i < L.size:=by rw[hI.size];exact hi
   simpa[this] using hL
  have ho':ops.toList[i]? = some oi:=by rw[Array.getElem?_toList];exact ho1
  have hsz:∀ d,oi.dst=some d→d < a.tmps.size:=fun d hd=>by
   have:=(List.all_eq_true.1 hlt) oi (List.mem_of_getElem? ho')
   rw[hd] at this
   simpa using this
  have hdirect:∀ e,zX3 ops i e=true→L.getD e false=true:=fun e he=>by
   unfold zX3 at he
   rw[ho'] at he
   obtain⟨x,hx,hy⟩:=List.any_eq_true.1 he
   obtain⟨h2,h3⟩:=Bool.and_eq_true _ _▸hy
   rw[Array.all_eq_true'] at hdep
   have h4:=hdep x (by simpa using hx)
   rw[h2] at h4
   have h5:x.on=e:=by simpa using h3
   rw[h5] at h4
   simpa using h4
  have hdirN:∀ n e,zV3 ops n i e=true→L.getD e false=true:=fun n e he=>by
   cases n with
   | zero=>exact hdirect e he
   | succ n=>
     unfold zV3 at he
     rcases Bool.or_eq_true _ _▸he with h2 | h2
     ·exact hdirect e h2
     ·rw[ho'] at h2
      obtain⟨x,hx,hy⟩:=List.any_eq_true.1 h2
      obtain⟨h3,h4⟩:=Bool.and_eq_true _ _▸hy
      refine hI.closedN n x.on e (hdirect x.on ?_) h4
      unfold zX3
      rw[ho']
      exact List.any_eq_true.2 ⟨x,hx,by simp[h3]⟩
  by_cases hil:i=ops.size-1
  ·subst hil
   obtain rfl:oi=o:=Option.some.inj (ho'.symm.trans hlst)
   have hall:∀ j,j < ops.size-1→L.getD j false=true:=fun j hj=>hdirN 9 j ((List.all_eq_true.1 hlast) j (List.mem_range.2 hj))
   have hfin:=zP9 (A:=A) ops.toList.dropLast F a hlen (fin W hI.below) hI.len hI.defers (fun j d hd=>by
     by_cases hj:j < ops.size-1
     ·rw[hpre j hj] at hd
      exact hI.fact j d (hall j hj) hd
     ·rw[hpre2 j (by omega)] at hd
      cases hd)
    (fun x hx=>by
     by_cases hod:oi.dst=some x
     ·exact hI.late (ops.size-1) x hf (by unfold zS5;rw[hlst];exact hod)
     ·refine hI.same x ?_
      unfold zV1
      rw[List.all_eq_true] at hx ⊢
      intro y hy
      have hsp:ops.toList=ops.toList.dropLast++ [oi]:=by
       obtain⟨ys,hys⟩:=List.getLast?_eq_some_iff.1 ho
       rw[hys]
       simp
      rw[hsp] at hy
      rcases List.mem_append.1 hy with h | h
      ·exact hx y h
      ·rw[List.mem_singleton.1 h]
       simpa using hod)
   unfold Region.wanted
   rw[hg]
   simp only[if_true]
   refine .inl (Oper.wp_mono (fun A' W' h=>.inr ⟨by simpa using hI.size,fun j hj=>?_,h⟩) hfin)
   by_cases hj2:j=ops.size-1
   ·subst hj2
    have:ops.size-1 < L.size:=by rw[hI.size];exact hj
    simp[this]
   ·have h1:=hall j (by omega)
    have h2:(L.setIfInBounds (ops.size-1) true).getD j false=L.getD j false:=by simp[Array.getElem?_setIfInBounds_ne (Ne.symm hj2)]
    rw[h2]
    exact h1
  ·have hi1:i < ops.size-1:=by omega
   obtain⟨f,hf2,h1⟩:=yW6 steps ((hpre i hi1).trans ho')
   rw[Nat.zero_add] at h1
   have hfD:F.getD i nof=f:=by rw[List.getD_eq_getElem?_getD,hf2];rfl
   have hput:∀ v W',f v W'→Below W.heap.size W W'→((L.setIfInBounds i true).getD (ops.size-1) false=false∧Held ops F z w0 a (L.setIfInBounds i true) (A.put oi.dst v) W')∨((L.setIfInBounds i true).size=ops.size∧(∀ j,j < ops.size→(L.setIfInBounds i true).getD j false=true)∧Q .normal (A.put oi.dst v) W'):=fun v W' hv hb=>
    .inl ⟨by simpa[Array.getElem?_setIfInBounds_ne hil] using hf,hI.put hz hmono hdis ho1 hdep hsz (by rw[hfD];exact hv) hb⟩
   have h2:=h1 A W (fun A' W'=>((L.setIfInBounds i true).getD (ops.size-1) false=false∧Held ops F z w0 a (L.setIfInBounds i true) A' W')∨((L.setIfInBounds i true).size=ops.size∧(∀ j,j < ops.size→(L.setIfInBounds i true).getD j false=true)∧Q .normal A' W')) Q hI.below
    (fun x v hx hv=>by rw[hI.same x hx,←Array.getElem?_toList,←zJ9];exact hv)
    (fun e d he hd=>hI.fact e d (hdirN 3 e he) hd)
    (fun j d v hj hd hv=>by
     rw[hI.late j d ?_ hd,←Array.getElem?_toList,←zJ9]
     ·exact hv
     ·rcases Bool.or_eq_true _ _▸hj with h3 | h3
      ·have:j=i:=by simpa using h3
       subst this
       exact hLi
      ·cases hlj:L.getD j false with
       | false=>rfl
       | true=>rw[hI.closedN 3 j i hlj h3] at hLi;cases hLi)
    hput
   unfold Region.wanted
   cases hgi:oi.guard with
   | none=>
     rw[hgi] at h2
     simp only[if_true]
     exact .inl h2
   | some gw=>
     obtain⟨g,want⟩:=gw
     rw[hgi] at h2
     obtain⟨u,d,h3,h4,h5⟩:=h2
     have hy:(yielded ops A.tmps g == some want)=isB want u:=by
      unfold yielded
      unfold zS5 at h3
      rw[←Array.getElem?_toList,h3]
      simp only[Option.bind_some,h4]
      cases u <;> first | rfl | (rename_i b;cases b <;> cases want <;> rfl)
     simp only[hy]
     cases hbb:isB want u with
     | true=>
       rw[hbb] at h5
       simp only[if_true]
       exact .inl h5
     | false=>
       rw[hbb] at h5
       simp only[Bool.false_eq_true,if_false]
       exact hput _ _ h5 (Below.refl _ _)
 ·rintro L A W hr (⟨hf,_⟩ | ⟨_,_,h⟩)
  ·have:=hr (ops.size-1) (by omega)
   rw[hf] at this
   cases this
  ·exact h
theorem zT9 {o:Oper}{W:World}{A A':Act}{fs:List Fact}{K:Act→World→Prop}{G:Act→Prop}(h:A=A')(hG:∀ A,o.wp P A W K Q→G A)(hq:o.wp P A' W K Q):zX1 W G [] fs A:=by
 subst h
 exact hG _ hq
end
end Go.Proofs.YtdgehhgjgifikaaGreatDoor
