/- What the claim needs of:Fph YS. -/
import Derived.Test.YtdgehhgjgifikaaGreatDoorN5
import Derived.Test.YtdgehhgjgifikaaGreatDoorN16
import Derived.StillTailTactics
namespace Go.Proofs.YtdgehhgjgifikaaGreatDoor
open Go.RowKit
def FreeF (f:Fact):Prop:=∀ v W W',f v W→f v W'
theorem zZ2 (u:Value):FreeF (isv u):=fun _ _ _ h=>h
theorem nof_free:FreeF nof:=fun _ _ _ h=>h
def yV8:List Fact→Prop
 | []=>True
 | f ::fs=>FreeF f∧yV8 fs
theorem yY5:∀ {fs:List Fact},yV8 fs→∀ i,FreeF (fs.getD i nof)
 | [],_,i=>by simpa using nof_free
 | f ::fs,h,0=>by simpa using h.1
 | f ::fs,h,i+1=>by simpa using yY5 h.2 i
def upd (i:Nat)(D:Nat→Bool):Nat→Bool:=fun j=>j == i||D j
theorem phA {b:Bool}{A B:Prop}(h:(b=false∧A)∨(b=true∧B))(hb:b=false):A:=by
 rcases h with h | h
 ·exact h.2
 ·rw[hb] at h;cases h.1
theorem phB {b:Bool}{A B:Prop}(h:(b=false∧A)∨(b=true∧B))(hb:b=true):B:=by
 rcases h with h | h
 ·rw[hb] at h;cases h.1
 ·exact h.2
section
variable {P:Program}
def OneP (P:Program)(ops:Array Oper)(F:List Fact)(Ph:(Nat→Bool)→Act→World→Prop)(a:Act)(i:Nat)(o:Oper)(f:Fact):Prop:=
 ∀ (A:Act) (W:World) (D:Nat→Bool) (K:Act→World→Prop) (Q:Exit→Act→World→Prop),A.tmps.size=a.tmps.size→Ph D A W→D i=false→(∀ e,zV3 ops 9 i e=true→D e=true)→(∀ j,zV3 ops 9 j i=true→D j=false)→
   (∀ x v,zV1 ops x=true→nth a.tmps.toList x=some v→A.tmps[x]? = some v)→
   (∀ e d,zV3 ops 3 i e=true→zS5 ops e=some d→∃ v,A.tmps[d]? = some v∧(F.getD e nof) v W)→
   (∀ j d v,(j == i||zV3 ops 3 j i)=true→zS5 ops j=some d→nth a.tmps.toList d=some v→A.tmps[d]? = some v)→
   (∀ v W',f v W'→Ph (upd i D) (A.put o.dst v) W'→K (A.put o.dst v) W')→
   match o.guard with
   | none=>o.wp P A W K Q
   | some (g,want)=>∃ u d,zS5 ops g=some d∧A.tmps[d]? = some u∧yA0 (isB want u) (o.wp P A W K Q) (f undef W∧Ph (upd i D) (A.put o.dst undef) W)
def AllP (P:Program)(ops:Array Oper)(F:List Fact)(Ph:(Nat→Bool)→Act→World→Prop)(a:Act):Nat→List Oper→List Fact→Prop
 | i,o ::os,f ::fs=>OneP P ops F Ph a i o f∧AllP P ops F Ph a (i+1) os fs
 | _,[],[]=>True
 | _,_,_=>False
structure HeldP (ops:Array Oper)(F:List Fact)(Ph:(Nat→Bool)→Act→World→Prop)(a:Act)(L:Array Bool)(A:Act)(W:World):Prop where
 size:L.size=ops.size
 ph:Ph (fun j=>L.getD j false) A W
 len:A.tmps.size=a.tmps.size
 defers:A.defers=a.defers
 same:∀ x,zV1 ops x=true→A.tmps[x]? = a.tmps[x]?
 late:∀ i d,L.getD i false=false→zS5 ops i=some d→A.tmps[d]? = a.tmps[d]?
 closed:∀ i e,L.getD i false=true→zX3 ops i e=true→L.getD e false=true
 fact:∀ i d,L.getD i false=true→zS5 ops i=some d→∃ v,A.tmps[d]? = some v∧(F.getD i nof) v W
theorem HeldP.closedN {ops:Array Oper}{F:List Fact}{Ph:(Nat→Bool)→Act→World→Prop}{a:Act}{L:Array Bool}{A:Act}{W:World}(h:HeldP ops F Ph a L A W):∀ n i e,L.getD i false=true→zV3 ops n i e=true→L.getD e false=true
 | 0,i,e,hi,hw=>h.closed i e hi hw
 | n+1,i,e,hi,hw=>by
   unfold zV3 at hw
   rcases Bool.or_eq_true _ _▸hw with h1 | h1
   ·exact h.closed i e hi h1
   ·cases ho:ops.toList[i]? with
    | none=>rw[ho] at h1;cases h1
    | some o=>
      rw[ho] at h1
      obtain⟨x,hx,hy⟩:=List.any_eq_true.1 h1
      obtain⟨h2,h3⟩:=Bool.and_eq_true _ _▸hy
      refine h.closedN n x.on e (h.closed i x.on hi ?_) h3
      unfold zX3
      rw[ho]
      exact List.any_eq_true.2 ⟨x,hx,by simp[h2]⟩
theorem xZ3 {ops:Array Oper}{F:List Fact}{Ph:(Nat→Bool)→Act→World→Prop}{a:Act}:∀ {os:List Oper}{fs:List Fact}{k:Nat},AllP P ops F Ph a k os fs→∀ {i:Nat}{o:Oper},os[i]? = some o→∃ f,fs[i]? = some f∧OneP P ops F Ph a (k+i) o f
 | [],fs,k,_,i,o,ho=>by simp at ho
 | x ::os,[],k,h,i,o,ho=>h.elim
 | x ::os,f ::fs,k,h,i,o,ho=>by
   cases i with
   | zero=>
     simp only[List.getElem?_cons_zero,Option.some.injEq] at ho
     subst ho
     exact⟨f,rfl,h.1⟩
   | succ i=>
     obtain⟨g,h1,h2⟩:=xZ3 h.2 (i:=i) (by simpa using ho)
     exact⟨g,by simpa using h1,by rw[show k+(i+1)=k+1+i by omega];exact h2⟩
theorem HeldP.put {ops:Array Oper}{F:List Fact}{Ph:(Nat→Bool)→Act→World→Prop}{a:Act}{L:Array Bool}{A:Act}{W W':World}(hfree:yV8 F)(hdis:zU2 (ops.toList.map (·.dst))=true)(h:HeldP ops F Ph a L A W)
  {i:Nat}{o:Oper}(ho:ops[i]? = some o)(hd:(o.after.all fun e=>!Region.binds .any e||L.getD e.on false)=true)(hsz:∀ d,o.dst=some d→d < a.tmps.size){v:Value}
  (hv:(F.getD i nof) v W')(hb:Ph (upd i fun j=>L.getD j false) (A.put o.dst v) W'):HeldP ops F Ph a (L.setIfInBounds i true) (A.put o.dst v) W':=by
 have hi:i < ops.size:=(Array.getElem?_eq_some_iff.1 ho).1
 have ho':ops.toList[i]? = some o:=by rw[Array.getElem?_toList];exact ho
 have hdst:zS5 ops i=o.dst:=by unfold zS5;rw[ho'];rfl
 have hset:∀ k,k≠i→(L.setIfInBounds i true).getD k false=L.getD k false:=fun k hk=>by
  simp[Array.getElem?_setIfInBounds_ne (Ne.symm hk)]
 have hput:∀ x,o.dst≠some x→(A.put o.dst v).tmps[x]? = A.tmps[x]?:=fun x hx=>by
  cases hod:o.dst with
  | none=>rfl
  | some d=>
    have hne:d≠x:=fun e=>hx (by rw[hod,e])
    simp[Act.put,Array.getElem?_setIfInBounds_ne hne]
 have hpi:∀ d,o.dst=some d→(A.put o.dst v).tmps[d]? = some v:=fun d hd=>by
  have hlt:d < A.tmps.size:=by rw[h.len];exact hsz d hd
  rw[hd]
  simp[Act.put,hlt]
 have hupd:(upd i fun j=>L.getD j false)=fun j=>(L.setIfInBounds i true).getD j false:=by
  funext j
  unfold upd
  by_cases hj:j=i
  ·subst hj
   have:j < L.size:=by rw[h.size];exact hi
   simp[this]
  ·rw[hset j hj]
   simp[hj]
 refine⟨by simpa using h.size,hupd▸hb,?_,?_,?_,?_,?_,?_⟩
 ·rw[←h.len];cases o.dst <;> simp[Act.put]
 ·rw[←h.defers];cases o.dst <;> simp[Act.put]
 ·intro x hx
  rw[hput x ?_,h.same x hx]
  intro hod
  unfold zV1 at hx
  rw[List.all_eq_true] at hx
  have:=hx o (List.mem_of_getElem? ho')
  rw[hod] at this
  simp at this
 ·intro k d hk hkd
  have hki:k≠i:=fun e=>by
   subst e
   have:k < L.size:=by rw[h.size];exact hi
   simp[this] at hk
  rw[hset k hki] at hk
  rw[hput d (fun hod=>hki ?_),h.late k d hk hkd]
  exact zT1 hdis hkd (show (ops.toList[i]?).bind (·.dst)=some d by rw[ho'];exact hod)
 ·intro k e hk hke
  by_cases he:e=i
  ·subst he
   have:e < L.size:=by rw[h.size];exact hi
   simp[this]
  ·rw[hset e he]
   by_cases hki:k=i
   ·subst hki
    unfold zX3 at hke
    rw[ho'] at hke
    obtain⟨x,hx,hy⟩:=List.any_eq_true.1 hke
    obtain⟨h1,h2⟩:=Bool.and_eq_true _ _▸hy
    rw[Array.all_eq_true'] at hd
    have h3:=hd x (by simpa using hx)
    rw[h1] at h3
    have h4:x.on=e:=by simpa using h2
    rw[h4] at h3
    simpa using h3
   ·rw[hset k hki] at hk
    exact h.closed k e hk hke
 ·intro k d hk hkd
  by_cases hki:k=i
  ·subst hki
   exact⟨v,hpi d (hdst▸hkd),hv⟩
  ·rw[hset k hki] at hk
   obtain⟨u,h1,h2⟩:=h.fact k d hk hkd
   refine⟨u,?_,yY5 hfree k _ _ _ h2⟩
   rw[hput d (fun hod=>hki ?_),h1]
   exact zT1 hdis hkd (show (ops.toList[i]?).bind (·.dst)=some d by rw[ho'];exact hod)
variable {ops:Array Oper}{Q:Exit→Act→World→Prop}
theorem zU0 {id:Nat}{a:Act}{w:World}(hm:P.follows .mixedOrders=true)(F:List Fact)(Ph:(Nat→Bool)→Act→World→Prop)(hw:Ph (fun _=>false) a w.drew)(hpos0:(ops.size == 0)=false)
  (hdis:zU2 (ops.toList.map (·.dst))=true)(hlt:dstLt ops a.tmps.size=true)(hwf:yM4 ops=true)(hlast:zD4 ops=true)
  (hfree:yV8 F)(steps0:AllP P ops F Ph a 0 (zF8 ops.toList) F)(hlen0:(zF8 ops.toList).length=F.length)(o:Oper)(ho0:yM5 ops.toList=some o)(hg:o.guard=none)
  (fin0:∀ W (D:Nat→Bool)(A:Act),(∀ i,i < ops.size-1→D i=true)→Ph D A W→∀ G:Act→Prop,(∀ A,o.wp P A W (fun A' W'=>Q .normal A' W') Q→G A)→zX1 W (fun B=>A=B→G B) (zF8 ops.toList) F a):(Code.region id ops true).wp P Q a w:=by
 have steps:=steps0
 have hlen:=hlen0
 have fin:=fun W D A0 hD hW=>fin0 W D A0 hD hW (fun A=>o.wp P A W (fun A' W'=>Q .normal A' W') Q) (fun _ h=>h)
 rw[zO7] at steps hlen
 simp only[zO7] at fin
 have ho:ops.toList.getLast? = some o:=(zE3 _).symm.trans ho0
 have hpos:0 < ops.size:=by have:=beq_eq_false_iff_ne.1 hpos0;omega
 have hlst:ops.toList[ops.size-1]? = some o:=by rw[←Array.length_toList,←List.getLast?_eq_getElem?];exact ho
 have hpre:∀ i,i < ops.size-1→ops.toList.dropLast[i]? = ops.toList[i]?:=fun i hi=>by
  rw[List.dropLast_eq_take,List.getElem?_take]
  simp only[Array.length_toList]
  rw[if_pos hi]
 have hpre2:∀ i,ops.size-1≤i→ops.toList.dropLast[i]? = none:=fun i hi=>by
  rw[List.getElem?_eq_none_iff,List.length_dropLast,Array.length_toList]
  exact hi
 refine zR0 hm (fun L A W=>(L.getD (ops.size-1) false=false∧HeldP ops F Ph a L A W)∨(L.size=ops.size∧(∀ i,i < ops.size→L.getD i false=true)∧Q .normal A W)) ?_ ?_ ?_ hwf ?_
 ·rintro L A W (⟨_,h⟩ | ⟨h,_⟩)
  ·exact h.size
  ·exact h
 ·refine .inl ⟨?_,by simp,?_,rfl,rfl,fun _ _=>rfl,fun _ _ _ _=>rfl,fun i e h _=>?_,fun i d h _=>?_⟩
  ·simp only[Array.getD_eq_getD_getElem?,Array.getElem?_replicate]
   split <;> rfl
  ·have e:(fun j=>(Array.replicate ops.size false).getD j false)=fun _=>false:=by
    funext j
    simp only[Array.getD_eq_getD_getElem?,Array.getElem?_replicate]
    split <;> rfl
   rw[e]
   exact hw
  all_goals
   exfalso
   simp only[Array.getD_eq_getD_getElem?,Array.getElem?_replicate] at h
   split at h <;> simp at h
 ·intro i oi ho1 L A W hL hdep hI
  have hi:i < ops.size:=(Array.getElem?_eq_some_iff.1 ho1).1
  rcases hI with ⟨hf,hI⟩ | ⟨hs,hall,_⟩
  rotate_left
  ·exfalso
   have h1:=hall i hi
   have:i < L.size:=by rw[hs];exact hi
   simp[this] at hL h1
   rw[hL] at h1
   cases h1
  have hLi:L.getD i false=false:=by
   have:i < L.size:=by rw[hI.size];exact hi
   simpa[this] using hL
  have ho':ops.toList[i]? = some oi:=by rw[Array.getElem?_toList];exact ho1
  have hsz:∀ d,oi.dst=some d→d < a.tmps.size:=fun d hd=>by
   have:=(List.all_eq_true.1 hlt) oi (List.mem_of_getElem? ho')
   rw[hd] at this
   simpa using this
  have hdirect:∀ e,zX3 ops i e=true→L.getD e false=true:=fun e he=>by
   unfold zX3 at he
   rw[ho'] at he
   obtain⟨x,hx,hy⟩:=List.any_eq_true.1 he
   obtain⟨h2,h3⟩:=Bool.and_eq_true _ _▸hy
   rw[Array.all_eq_true'] at hdep
   have h4:=hdep x (by simpa using hx)
   rw[h2] at h4
   have h5:x.on=e:=by simpa using h3
   rw[h5] at h4
   simpa using h4
  have hdirN:∀ n e,zV3 ops n i e=true→L.getD e false=true:=fun n e he=>by
   cases n with
   | zero=>exact hdirect e he
   | succ n=>
     unfold zV3 at he
     rcases Bool.or_eq_true _ _▸he with h2 | h2
     ·exact hdirect e h2
     ·rw[ho'] at h2
      obtain⟨x,hx,hy⟩:=List.any_eq_true.1 h2
      obtain⟨h3,h4⟩:=Bool.and_eq_true _ _▸hy
      refine hI.closedN n x.on e (hdirect x.on ?_) h4
      unfold zX3
      rw[ho']
      exact List.any_eq_true.2 ⟨x,hx,by simp[h3]⟩
  by_cases hil:i=ops.size-1
  ·subst hil
   obtain rfl:oi=o:=Option.some.inj (ho'.symm.trans hlst)
   have hall:∀ j,j < ops.size-1→L.getD j false=true:=fun j hj=>hdirN 9 j ((List.all_eq_true.1 hlast) j (List.mem_range.2 hj))
   have hfin:=zP9 (A:=A) ops.toList.dropLast F a hlen (fin W (fun j=>L.getD j false) A hall hI.ph) hI.len hI.defers (fun j d hd=>by
     by_cases hj:j < ops.size-1
     ·rw[hpre j hj] at hd
      exact hI.fact j d (hall j hj) hd
     ·rw[hpre2 j (by omega)] at hd
      cases hd)
    (fun x hx=>by
     by_cases hod:oi.dst=some x
     ·exact hI.late (ops.size-1) x hf (by unfold zS5;rw[hlst];exact hod)
     ·refine hI.same x ?_
      unfold zV1
      rw[List.all_eq_true] at hx ⊢
      intro y hy
      have hsp:ops.toList=ops.toList.dropLast++ [oi]:=by
       obtain⟨ys,hys⟩:=List.getLast?_eq_some_iff.1 ho
       rw[hys]
       simp
      rw[hsp] at hy
      rcases List.mem_append.1 hy with h | h
      ·exact hx y h
      ·rw[List.mem_singleton.1 h]
       simpa using hod)
   unfold Region.wanted
   rw[hg]
   simp only[if_true]
   refine .inl (Oper.wp_mono (fun A' W' h=>.inr ⟨by simpa using hI.size,fun j hj=>?_,h⟩) (hfin rfl))
   by_cases hj2:j=ops.size-1
   ·subst hj2
    have:ops.size-1 < L.size:=by rw[hI.size];exact hj
    simp[this]
   ·have h1:=hall j (by omega)
    have h2:(L.setIfInBounds (ops.size-1) true).getD j false=L.getD j false:=by simp[Array.getElem?_setIfInBounds_ne (Ne.symm hj2)]
    rw[h2]
    exact h1
  ·have hi1:i < ops.size-1:=by omega
   obtain⟨f,hf2,h1⟩:=xZ3 steps ((hpre i hi1).trans ho')
   rw[Nat.zero_add] at h1
   have hfD:F.getD i nof=f:=by rw[List.getD_eq_getElem?_getD,hf2];rfl
   have hput:∀ v W',f v W'→Ph (upd i fun j=>L.getD j false) (A.put oi.dst v) W'→((L.setIfInBounds i true).getD (ops.size-1) false=false∧HeldP ops F Ph a (L.setIfInBounds i true) (A.put oi.dst v) W')∨((L.setIfInBounds i true).size=ops.size∧(∀ j,j < ops.size→(L.setIfInBounds i true).getD j false=true)∧Q .normal (A.put oi.dst v) W'):=fun v W' hv hb=>
    .inl ⟨by simpa[Array.getElem?_setIfInBounds_ne hil] using hf,hI.put hfree hdis ho1 hdep hsz (by rw[hfD];exact hv) hb⟩
   have h2:=h1 A W (fun j=>L.getD j false) (fun A' W'=>((L.setIfInBounds i true).getD (ops.size-1) false=false∧HeldP ops F Ph a (L.setIfInBounds i true) A' W')∨((L.setIfInBounds i true).size=ops.size∧(∀ j,j < ops.size→(L.setIfInBounds i true).getD j false=true)∧Q .normal A' W')) Q hI.len hI.ph hLi (fun e he=>hdirN 9 e he) (fun j hj=>by
     cases hlj:L.getD j false with
     | false=>rfl
     | true=>rw[hI.closedN 9 j i hlj hj] at hLi;cases hLi)
    (fun x v hx hv=>by rw[hI.same x hx,←Array.getElem?_toList,←zJ9];exact hv)
    (fun e d he hd=>hI.fact e d (hdirN 3 e he) hd)
    (fun j d v hj hd hv=>by
     rw[hI.late j d ?_ hd,←Array.getElem?_toList,←zJ9]
     ·exact hv
     ·rcases Bool.or_eq_true _ _▸hj with h3 | h3
      ·have:j=i:=by simpa using h3
       subst this
       exact hLi
      ·cases hlj:L.getD j false with
       | false=>rfl
       | true=>rw[hI.closedN 3 j i hlj h3] at hLi;cases hLi)
    hput
   unfold Region.wanted
   cases hgi:oi.guard with
   | none=>
     rw[hgi] at h2
     simp only[if_true]
     exact .inl h2
   | some gw=>
     obtain⟨g,want⟩:=gw
     rw[hgi] at h2
     obtain⟨u,d,h3,h4,h5⟩:=h2
     have hy:(yielded ops A.tmps g == some want)=isB want u:=by
      unfold yielded
      unfold zS5 at h3
      rw[←Array.getElem?_toList,h3]
      simp only[Option.bind_some,h4]
      cases u <;> first | rfl | (rename_i b;cases b <;> cases want <;> rfl)
     simp only[hy]
     cases hbb:isB want u with
     | true=>
       rw[hbb] at h5
       simp only[if_true]
       exact .inl h5
     | false=>
       rw[hbb] at h5
       simp only[Bool.false_eq_true,if_false]
       exact hput _ _ h5.1 h5.2
 ·rintro L A W hr (⟨hf,_⟩ | ⟨_,_,h⟩)
  ·have:=hr (ops.size-1) (by omega)
   rw[hf] at this
   cases this
  ·exact h
theorem zM3 {o:Oper}{W:World}{A0 A A':Act}{fs:List Fact}{K:Act→World→Prop}{G:Act→Prop}(h:A=A')(hG:∀ A,o.wp P A W K Q→G A)(hq:A0=A'→o.wp P A' W K Q):zX1 W (fun B=>A0=B→G B) [] fs A:=by
 subst h
 exact fun hA=>hG _ (hq hA)
end
theorem zG1 {A:Act}{d x:Nat}(h:d≠x)(v:Value):(A.put (some d) v).tmps[x]? = A.tmps[x]?:=by
 simp[Act.put,Array.getElem?_setIfInBounds_ne h]
theorem act_at {A:Act}{d m:Nat}(hs:A.tmps.size=m)(h:d < m)(v:Value):(A.put (some d) v).tmps[d]? = some v:=by
 have:d < A.tmps.size:=by omega
 simp[Act.put,this]
theorem yL0 {objs:List Ob}{imps:List (List Tx)}{env:List ScA}{lp:List Tx}{file:Nat}{t:Tx}(hK:EnvK objs env):∀ c,(zW6 imps env lp file t).2.2=some c→∃ o∈objs,o.blk=c:=fun c hc=>by
 have hf:∀ env':List ScA,(∀ x∈env',x∈env)→(zV6 t env').2.2=some c→∃ o∈objs,o.blk=c:=fun env'=>by
  induction env' with
  | nil=>intro _ h;simp[zV6] at h
  | cons x r ih=>
    intro hs h
    unfold zV6 at h
    cases hl:zV9 x.lets t with
    | some b=>
      rw[hl] at h
      simp only[Option.some.injEq] at h
      subst h
      exact hK x (hs x (by simp)) (t,b) (zR1 hl)
    | none=>
      rw[hl] at h
      simp only at h
      split at h
      ·simp at h
      ·exact ih (fun y hy=>hs y (by simp[hy])) h
 unfold zW6 at hc
 split at hc
 ·simp at hc
 ·split at hc
  ·split at hc <;> simp at hc
  ·exact hf env (fun _ h=>h) hc
theorem zK7 {w:World}{g:Nat}{ty:TypeId}{cs:Array Value}(h:Blk w g ty cs):w.frozen? ⟨g,0,none⟩=false∧w.frozen? ⟨g,1,none⟩=false∧w.frozen? ⟨g,2,none⟩=false∧w.frozen? ⟨g,3,none⟩=false∧w.frozen? ⟨g,4,none⟩=false∧w.frozen? ⟨g,5,none⟩=false∧w.frozen? ⟨g,6,none⟩=false∧w.frozen? ⟨g,7,none⟩=false∧w.frozen? ⟨g,8,none⟩=false:=⟨h.free 0,h.free 1,h.free 2,h.free 3,h.free 4,h.free 5,h.free 6,h.free 7,h.free 8⟩
theorem Fr.store9 {X:Type}{R:RF}{C:Clo X}{n s:Nat}{σ0 σ:GS X}{Im0 Im:Nat→Prop}{w wx:World}{g:Nat}{ty:TypeId}{z0 z1 z2 z3 z4 z5 z6 z7 z8:Value}(h:Fr R C n s σ0 Im0 w σ Im wx)(hg:w.heap.size≤g)(hm:Mine (zn R C σ Im) wx g)(hb:Blk wx g ty #[z0,z1,z2,z3,z4,z5,z6,z7,z8])(v0 v1 v2 v3 v4 v5 v6 v7 v8:Value) :
  Fr R C n s σ0 Im0 w σ Im (((((((((wx.setCell ⟨g,0,none⟩ v0).setCell ⟨g,1,none⟩ v1).setCell ⟨g,2,none⟩ v2).setCell ⟨g,3,none⟩ v3).setCell ⟨g,4,none⟩ v4).setCell ⟨g,5,none⟩ v5).setCell ⟨g,6,none⟩ v6).setCell ⟨g,7,none⟩ v7).setCell ⟨g,8,none⟩ v8)∧Blk (((((((((wx.setCell ⟨g,0,none⟩ v0).setCell ⟨g,1,none⟩ v1).setCell ⟨g,2,none⟩ v2).setCell ⟨g,3,none⟩ v3).setCell ⟨g,4,none⟩ v4).setCell ⟨g,5,none⟩ v5).setCell ⟨g,6,none⟩ v6).setCell ⟨g,7,none⟩ v7).setCell ⟨g,8,none⟩ v8) g ty #[v0,v1,v2,v3,v4,v5,v6,v7,v8]∧Kp (· = g) wx (((((((((wx.setCell ⟨g,0,none⟩ v0).setCell ⟨g,1,none⟩ v1).setCell ⟨g,2,none⟩ v2).setCell ⟨g,3,none⟩ v3).setCell ⟨g,4,none⟩ v4).setCell ⟨g,5,none⟩ v5).setCell ⟨g,6,none⟩ v6).setCell ⟨g,7,none⟩ v7).setCell ⟨g,8,none⟩ v8):=by
 have hk:Kp (· = g) wx (((((((((wx.setCell ⟨g,0,none⟩ v0).setCell ⟨g,1,none⟩ v1).setCell ⟨g,2,none⟩ v2).setCell ⟨g,3,none⟩ v3).setCell ⟨g,4,none⟩ v4).setCell ⟨g,5,none⟩ v5).setCell ⟨g,6,none⟩ v6).setCell ⟨g,7,none⟩ v7).setCell ⟨g,8,none⟩ v8):=((((((((((Kp.refl (· = g) wx).setCell (p:=⟨g,0,none⟩) rfl v0).setCell (p:=⟨g,1,none⟩) rfl v1).setCell (p:=⟨g,2,none⟩) rfl v2).setCell (p:=⟨g,3,none⟩) rfl v3).setCell (p:=⟨g,4,none⟩) rfl v4).setCell (p:=⟨g,5,none⟩) rfl v5).setCell (p:=⟨g,6,none⟩) rfl v6).setCell (p:=⟨g,7,none⟩) rfl v7).setCell (p:=⟨g,8,none⟩) rfl v8)
 refine⟨h.write hk fun b hb=>by subst hb;exact⟨hg,hm.2⟩,?_,hk⟩
 have:=((((((((hb.set_ 0 v0).set_ 1 v1).set_ 2 v2).set_ 3 v3).set_ 4 v4).set_ 5 v5).set_ 6 v6).set_ 7 v7).set_ 8 v8
 simpa using this
section
variable {X:Type}{R:RF}{C:Clo X}{n:Nat}{U:UseR X}{g:Nat}{lb:Array Value}
set_option maxRecDepth 100000 in
set_option maxHeartbeats 16000000 in
theorem yL1 (hU:R.use=.func (.func g) #[] lb)(eg:∀ args w,(callFunc g args).run Tryz.prog w=.ok (.enter g args) w)(hC:yV7 R C n U g lb)(t:Tx)(m:Int)(a b:Tx)(As:Option Addr)(cs:Nat)(subs:List EA)(Ad:Option Addr)(cd:Nat)(decls:List DA)(At:Option Addr)(ct:Nat)(tail:List Tx)(pos:Int):zP4 R C n U (.mk 10 t m a b As cs subs Ad cd decls At ct tail pos):=by
 intro σ Im w s env v lp A c file hS hOk hE hK hne hlp hf hd hdl
 have hSs:St R C n (s+1) σ Im w:=hS.less (by rw[wE];omega) (Nat.le_refl _)
 obtain⟨w1,hw1⟩:∃ w1,(w.alloc (.cells #[.int .i64 10,.string ⟨t.toArray⟩,.int .i64 m,.string ⟨a.toArray⟩,.string ⟨b.toArray⟩,.slice As subs.length cs,.slice Ad decls.length cd,.slice At tail.length ct,.int .i64 pos] 67)).alloc (.cells #[.int .i64 0,.string ⟨#[]⟩,.int .i64 0,.string ⟨#[]⟩,.string ⟨#[]⟩,.slice none 0 0,.slice none 0 0,.slice none 0 0,.int .i64 0] 67)=w1:=⟨_,rfl⟩
 have hb1:Below w.heap.size w w1:=by rw[←hw1];exact(((Below.refl w.heap.size w).alloc (Nat.le_refl _) _).alloc (by simp) _)
 have hz1:w1.heap.size=w.heap.size+1+1:=by rw[←hw1];simp
 have F1:=Lib.hid ((Fr.start hSs).below hb1)
 have M1:=Lib.hid (show Mine (zn R C σ Im) w1 w.heap.size∧Mine (zn R C σ Im) w1 (w.heap.size+1) from⟨hSs.zo.new_ (Nat.le_refl _) (by omega),hSs.zo.new_ (by omega) (by omega)⟩)
 have HB1:=Lib.hid (show Blk w1 w.heap.size 67 #[.int .i64 10,.string ⟨t.toArray⟩,.int .i64 m,.string ⟨a.toArray⟩,.string ⟨b.toArray⟩,.slice As subs.length cs,.slice Ad decls.length cd,.slice At tail.length ct,.int .i64 pos] from by rw[←hw1];exact(Blk.new w _ _).alloc _)
 have HZ1:=Lib.hid (show Blk w1 (w.heap.size+1) 67 #[.int .i64 0,.string ⟨#[]⟩,.int .i64 0,.string ⟨#[]⟩,.string ⟨#[]⟩,.slice none 0 0,.slice none 0 0,.slice none 0 0,.int .i64 0] from by
  rw[←hw1]
  have:=Blk.new (w.alloc (.cells #[.int .i64 10,.string ⟨t.toArray⟩,.int .i64 m,.string ⟨a.toArray⟩,.string ⟨b.toArray⟩,.slice As subs.length cs,.slice Ad decls.length cd,.slice At tail.length ct,.int .i64 pos] 67)) 67 #[.int .i64 0,.string ⟨#[]⟩,.int .i64 0,.string ⟨#[]⟩,.string ⟨#[]⟩,.slice none 0 0,.slice none 0 0,.slice none 0 0,.int .i64 0]
  rw[World.size_alloc] at this
  exact this)
 have hkN:Kp (fun _=>False) w w1:=Kp.ofBelow hb1 _
 have HOk1:=Lib.hid ((zZ5 hkN (fun _ _ h=>h) (fun _ h=>h)).1 _ hOk)
 have hE1:=hE.kept hkN (fun _ _ h=>h) (fun _ h=>h)
 have hlp1:=hlp.kept hkN (fun _ _ h=>h) (fun _ h=>h)
 have cF:=find_any R σ.ρ σ.av env v lp A c file 10 t m a b As subs.length cs Ad decls.length cd At tail.length ct pos w1 F1.out.st.rs hE1.1 hK hlp1.n hf HOk1.out.1.1 (by omega)
 have HFd:=Lib.hid (yL0 (imps:=R.imps) (lp:=lp) (file:=file) (t:=t) hK)
 have HF:=Lib.hid hf
 have HVis:=Lib.hid (show ∀ σ' e',U {σ with ρ:=zU5 file t (zW6 R.imps env lp file t) σ.ρ} (.mk 10 t m a b As cs subs Ad cd decls At ct tail pos) (zW6 R.imps env lp file t) file σ' e'→VisE R U (.mk 10 t m a b As cs subs Ad cd decls At ct tail pos) env lp file σ σ' e' from fun σ' e' h=>by
  rw[VisE]
  exact .inl ⟨rfl,h⟩)
 obtain⟨vA,rfl⟩:∃ s,v=.pointer (some ⟨s,0,none⟩):=by
  cases env with
  | nil=>exact absurd rfl hne
  | cons x r=>exact⟨x.blk,hE.1.1⟩
 clear hS hSs hOk hE hK hne hlp hd hdl hkN hE1 hlp1 hf hb1
 change Calls Tryz.prog 93 #[.pointer (some ⟨R.r,0,none⟩),.agg #[.int .i64 10,.string ⟨t.toArray⟩,.int .i64 m,.string ⟨a.toArray⟩,.string ⟨b.toArray⟩,.slice As subs.length cs,.slice Ad decls.length cd,.slice At tail.length ct,.int .i64 pos],.pointer (some ⟨vA,0,none⟩),.slice A lp.length c,.int .i64 (file:Nat)] w _
 go_enter Tryz.func93,Tryz.ntmps93
 go_upto_region 1 with fail
 clear hw1
 obtain⟨x,hx⟩:∃ x,zW6 R.imps env lp file t=x:=⟨_,rfl⟩
 have HX:=Lib.hid hx
 obtain⟨kd,dp,ob⟩:=x
 unfold yA6 at cF
 rw[hx] at cF
 have HKd:=Lib.hid (show 0≤kd∧kd < 5 from by have h:=yE2 R.imps env lp file t;rw[hx] at h;exact h)
 clear hx
 obtain⟨e0,e1,e2,e3,e4,e5,e6,e7,e8⟩:=zZ6 HB1.out
 cases ob with
 | none=>
   go_wp2_with fail
   refine cF.mono ?_
   rintro e w2 ⟨rfl,hk2,hr2⟩
   dsimp only[yV4]
   obtain⟨S2,Q2,G2⟩:=F1.out.st.find file t (kd,dp,none) hk2 hr2
   have F2:=Lib.hid (F1.out.step S2 Q2 G2)
   have hE2:Blk w2 w.heap.size 67 #[.int .i64 10,.string ⟨t.toArray⟩,.int .i64 m,.string ⟨a.toArray⟩,.string ⟨b.toArray⟩,.slice As subs.length cs,.slice Ad decls.length cd,.slice At tail.length ct,.int .i64 pos]:=Q2.kp.blk HB1.out M1.out.1.2.1
   have hZ2:Blk w2 (w.heap.size+1) 67 #[.int .i64 0,.string ⟨#[]⟩,.int .i64 0,.string ⟨#[]⟩,.string ⟨#[]⟩,.slice none 0 0,.slice none 0 0,.slice none 0 0,.int .i64 0]:=Q2.kp.blk HZ1.out M1.out.2.2.1
   have M2:=Lib.hid (show Mine _ _ _∧Mine _ _ _ from⟨Q2.own M1.out.1,Q2.own M1.out.2⟩)
   have HOk2:=Lib.hid ((zZ5 Q2.kp (fun b hb hm=>(F1.out.st.zo.mu b hm).2 hb) (fun _ h=>h)).1 _ HOk1.out)
   have HKn:=Lib.hid (show ∀ c,(none:Option Nat)=some c→∃ o∈(zU5 file t (kd,dp,none) σ.ρ).objs,o.blk=c from fun c hc=>by
    obtain⟨o,ho,e⟩:=HFd.out c (by rw[HX.out];exact hc)
    obtain⟨o',ho',e'⟩:=G2.ob o ho
    exact⟨o',ho',e'.trans e⟩)
   clear hk2 hr2 S2 Q2 G2 cF e0 e1 e2 e3 e4 e5 e6 e7 e8
   obtain⟨e0,e1,e2,e3,e4,e5,e6,e7,e8⟩:=zZ6 hE2
   go_upto_region 3 with fail
   have hba:Below w2.heap.size w2 (w2.alloc (.cells #[.int .i64 (file:Nat),.int .i64 pos,.string ⟨t.toArray⟩,.int .i64 kd,.int .i64 dp] 52)).drew:=((Below.refl _ _).alloc (Nat.le_refl _) _).drew
   have F3:=Lib.hid (F2.out.below hba)
   have hE3:=hE2.keep hba
   have HZ3:=Lib.hid (hZ2.keep hba)
   have M3:=Lib.hid (show Mine _ _ _∧Mine _ _ _ from⟨M2.out.1.up hba.size,M2.out.2.up hba.size⟩)
   have HOk3:=Lib.hid ((zZ5 (N:=fun _=>False) (Kp.ofBelow hba _) (fun _ _ h=>h) (fun _ h=>h)).1 _ HOk2.out)
   have hU3:Blk (w2.alloc (.cells #[.int .i64 (file:Nat),.int .i64 pos,.string ⟨t.toArray⟩,.int .i64 kd,.int .i64 dp] 52)).drew w2.heap.size 52 #[.int .i64 (file:Nat),.int .i64 pos,.string ⟨t.toArray⟩,.int .i64 kd,.int .i64 dp]:=Blk.new w2 _ _
   clear e0 e1 e2 e3 e4 e5 e6 e7 e8 hE2 hZ2 M2 HOk2 F2
   refine wp_region_still_tail 7 (by kernel_rfl) (by kernel_rfl) ?_
   simp only[List.take_succ_cons,List.take_zero,List.drop_succ_cons,List.drop_zero]
   change wpStill _ _ (w2.alloc (.cells #[.int .i64 (file:Nat),.int .i64 pos,.string ⟨t.toArray⟩,.int .i64 kd,.int .i64 dp] 52)).drew (fun a'=>wpList _ _ _ _ a' (w2.alloc (.cells #[.int .i64 (file:Nat),.int .i64 pos,.string ⟨t.toArray⟩,.int .i64 kd,.int .i64 dp] 52)).drew) _ _
   generalize (w2.alloc (.cells #[.int .i64 (file:Nat),.int .i64 pos,.string ⟨t.toArray⟩,.int .i64 kd,.int .i64 dp] 52)).drew=w3 at F3 hE3 HZ3 M3 HOk3 hU3 hba ⊢
   obtain⟨e0,e1,e2,e3,e4,e5,e6,e7,e8⟩:=zZ6 hE3
   obtain⟨u0,u1,u2,u3,u4⟩:=useC hU3
   have r8:=F3.out.st.rs.rc.cell 8
   rw[hU] at r8
   repeat still_step
   try refine wpStill_nil ?_
   have cC:=hC _ Im w3 s 10 t m a b As cs subs Ad cd decls At ct tail pos (kd,dp,none) file F3.out.st HOk3.out HKn.out HF.out HKd.out
   go_wp2_with fail
   refine cC.mono ?_
   rintro e w4 ⟨σ',Im',e',rfl,hU4,hS4,hQ4,hG4,hO4⟩
   have F4:=F3.out.step hS4 hQ4 hG4
   have hZ4:=hQ4.kp.blk HZ3.out M3.out.2.2.1
   have hM4:=hQ4.own M3.out.2
   cases e' with
   | mk xk xt xm xa xb xAs xcs xsubs xAd xcd xdecls xAt xct xtail xpos=>
     obtain⟨zf0,zf1,zf2,zf3,zf4,zf5,zf6,zf7,zf8⟩:=zK7 hZ4
     obtain⟨y0,y1,y2,y3,y4,y5,y6,y7,y8⟩:=zZ6 hZ4
     have H4:=Lib.hid (show _∧_∧_∧_∧_ from⟨hU4,F4,hZ4,hM4,hO4⟩)
     clear hU4 hS4 hQ4 hG4 hO4 F4 hZ4 hM4
     clear cC e0 e1 e2 e3 e4 e5 e6 e7 e8 u0 u1 u2 u3 u4 r8
     dsimp only[encE]
     go_wp2
     obtain⟨hU4,F4,hZ4,hM4,hO4⟩:=H4.out
     obtain⟨F5,hB5,hK5⟩:=F4.store9 (by omega) hM4 hZ4 (.int .i64 xk) (.string ⟨xt.toArray⟩) (.int .i64 xm) (.string ⟨xa.toArray⟩) (.string ⟨xb.toArray⟩) (.slice xAs xsubs.length xcs) (.slice xAd xdecls.length xcd) (.slice xAt xtail.length xct) (.int .i64 xpos)
     have HR:=Lib.hid (show RetE R C n s σ Im w (VisE R U (.mk 10 t m a b As cs subs Ad cd decls At ct tail pos) env lp file σ) (.returned (.agg #[.int .i64 xk,.string ⟨xt.toArray⟩,.int .i64 xm,.string ⟨xa.toArray⟩,.string ⟨xb.toArray⟩,.slice xAs xsubs.length xcs,.slice xAd xdecls.length xcd,.slice xAt xtail.length xct,.int .i64 xpos])) _ from⟨σ',Im',.mk xk xt xm xa xb xAs xcs xsubs xAd xcd xdecls xAt xct xtail xpos,rfl,HVis.out _ _ (by rw[HX.out];exact hU4),F5.st,F5.sp,F5.gr,(zZ5 hK5 (fun b hb e=>hM4.2.2 (e▸hb)) (fun _ h=>h)).1 _ hO4⟩)
     obtain⟨z0,z1,z2,z3,z4,z5,z6,z7,z8⟩:=zZ6 hB5
     clear zf0 zf1 zf2 zf3 zf4 zf5 zf6 zf7 zf8 y0 y1 y2 y3 y4 y5 y6 y7 y8
     refine bodyPost_ret (v:=.agg #[.int .i64 xk,.string ⟨xt.toArray⟩,.int .i64 xm,.string ⟨xa.toArray⟩,.string ⟨xb.toArray⟩,.slice xAs xsubs.length xcs,.slice xAd xdecls.length xcd,.slice xAt xtail.length xct,.int .i64 xpos]) ?_ rfl HR.out
     simp[results,Tryz.results93,go_sem,z0,z1,z2,z3,z4,z5,z6,z7,z8]
 | some c1=>
   go_wp2_with fail
   refine cF.mono ?_
   rintro e w2 ⟨rfl,hk2,hr2⟩
   dsimp only[yV4]
   obtain⟨S2,Q2,G2⟩:=F1.out.st.find file t (kd,dp,(some c1)) hk2 hr2
   have F2:=Lib.hid (F1.out.step S2 Q2 G2)
   have hE2:Blk w2 w.heap.size 67 #[.int .i64 10,.string ⟨t.toArray⟩,.int .i64 m,.string ⟨a.toArray⟩,.string ⟨b.toArray⟩,.slice As subs.length cs,.slice Ad decls.length cd,.slice At tail.length ct,.int .i64 pos]:=Q2.kp.blk HB1.out M1.out.1.2.1
   have hZ2:Blk w2 (w.heap.size+1) 67 #[.int .i64 0,.string ⟨#[]⟩,.int .i64 0,.string ⟨#[]⟩,.string ⟨#[]⟩,.slice none 0 0,.slice none 0 0,.slice none 0 0,.int .i64 0]:=Q2.kp.blk HZ1.out M1.out.2.2.1
   have M2:=Lib.hid (show Mine _ _ _∧Mine _ _ _ from⟨Q2.own M1.out.1,Q2.own M1.out.2⟩)
   have HOk2:=Lib.hid ((zZ5 Q2.kp (fun b hb hm=>(F1.out.st.zo.mu b hm).2 hb) (fun _ h=>h)).1 _ HOk1.out)
   have HKn:=Lib.hid (show ∀ c,((some c1):Option Nat)=some c→∃ o∈(zU5 file t (kd,dp,(some c1)) σ.ρ).objs,o.blk=c from fun c hc=>by
    obtain⟨o,ho,e⟩:=HFd.out c (by rw[HX.out];exact hc)
    obtain⟨o',ho',e'⟩:=G2.ob o ho
    exact⟨o',ho',e'.trans e⟩)
   clear hk2 hr2 S2 Q2 G2 cF e0 e1 e2 e3 e4 e5 e6 e7 e8
   obtain⟨e0,e1,e2,e3,e4,e5,e6,e7,e8⟩:=zZ6 hE2
   go_upto_region 3 with fail
   have hba:Below w2.heap.size w2 (w2.alloc (.cells #[.int .i64 (file:Nat),.int .i64 pos,.string ⟨t.toArray⟩,.int .i64 kd,.int .i64 dp] 52)).drew:=((Below.refl _ _).alloc (Nat.le_refl _) _).drew
   have F3:=Lib.hid (F2.out.below hba)
   have hE3:=hE2.keep hba
   have HZ3:=Lib.hid (hZ2.keep hba)
   have M3:=Lib.hid (show Mine _ _ _∧Mine _ _ _ from⟨M2.out.1.up hba.size,M2.out.2.up hba.size⟩)
   have HOk3:=Lib.hid ((zZ5 (N:=fun _=>False) (Kp.ofBelow hba _) (fun _ _ h=>h) (fun _ h=>h)).1 _ HOk2.out)
   have hU3:Blk (w2.alloc (.cells #[.int .i64 (file:Nat),.int .i64 pos,.string ⟨t.toArray⟩,.int .i64 kd,.int .i64 dp] 52)).drew w2.heap.size 52 #[.int .i64 (file:Nat),.int .i64 pos,.string ⟨t.toArray⟩,.int .i64 kd,.int .i64 dp]:=Blk.new w2 _ _
   clear e0 e1 e2 e3 e4 e5 e6 e7 e8 hE2 hZ2 M2 HOk2 F2
   refine wp_region_still_tail 7 (by kernel_rfl) (by kernel_rfl) ?_
   simp only[List.take_succ_cons,List.take_zero,List.drop_succ_cons,List.drop_zero]
   change wpStill _ _ (w2.alloc (.cells #[.int .i64 (file:Nat),.int .i64 pos,.string ⟨t.toArray⟩,.int .i64 kd,.int .i64 dp] 52)).drew (fun a'=>wpList _ _ _ _ a' (w2.alloc (.cells #[.int .i64 (file:Nat),.int .i64 pos,.string ⟨t.toArray⟩,.int .i64 kd,.int .i64 dp] 52)).drew) _ _
   generalize (w2.alloc (.cells #[.int .i64 (file:Nat),.int .i64 pos,.string ⟨t.toArray⟩,.int .i64 kd,.int .i64 dp] 52)).drew=w3 at F3 hE3 HZ3 M3 HOk3 hU3 hba ⊢
   obtain⟨e0,e1,e2,e3,e4,e5,e6,e7,e8⟩:=zZ6 hE3
   obtain⟨u0,u1,u2,u3,u4⟩:=useC hU3
   have r8:=F3.out.st.rs.rc.cell 8
   rw[hU] at r8
   repeat still_step
   try refine wpStill_nil ?_
   have cC:=hC _ Im w3 s 10 t m a b As cs subs Ad cd decls At ct tail pos (kd,dp,(some c1)) file F3.out.st HOk3.out HKn.out HF.out HKd.out
   go_wp2_with fail
   refine cC.mono ?_
   rintro e w4 ⟨σ',Im',e',rfl,hU4,hS4,hQ4,hG4,hO4⟩
   have F4:=F3.out.step hS4 hQ4 hG4
   have hZ4:=hQ4.kp.blk HZ3.out M3.out.2.2.1
   have hM4:=hQ4.own M3.out.2
   cases e' with
   | mk xk xt xm xa xb xAs xcs xsubs xAd xcd xdecls xAt xct xtail xpos=>
     obtain⟨zf0,zf1,zf2,zf3,zf4,zf5,zf6,zf7,zf8⟩:=zK7 hZ4
     obtain⟨y0,y1,y2,y3,y4,y5,y6,y7,y8⟩:=zZ6 hZ4
     have H4:=Lib.hid (show _∧_∧_∧_∧_ from⟨hU4,F4,hZ4,hM4,hO4⟩)
     clear hU4 hS4 hQ4 hG4 hO4 F4 hZ4 hM4
     clear cC e0 e1 e2 e3 e4 e5 e6 e7 e8 u0 u1 u2 u3 u4 r8
     dsimp only[encE]
     go_wp2
     obtain⟨hU4,F4,hZ4,hM4,hO4⟩:=H4.out
     obtain⟨F5,hB5,hK5⟩:=F4.store9 (by omega) hM4 hZ4 (.int .i64 xk) (.string ⟨xt.toArray⟩) (.int .i64 xm) (.string ⟨xa.toArray⟩) (.string ⟨xb.toArray⟩) (.slice xAs xsubs.length xcs) (.slice xAd xdecls.length xcd) (.slice xAt xtail.length xct) (.int .i64 xpos)
     have HR:=Lib.hid (show RetE R C n s σ Im w (VisE R U (.mk 10 t m a b As cs subs Ad cd decls At ct tail pos) env lp file σ) (.returned (.agg #[.int .i64 xk,.string ⟨xt.toArray⟩,.int .i64 xm,.string ⟨xa.toArray⟩,.string ⟨xb.toArray⟩,.slice xAs xsubs.length xcs,.slice xAd xdecls.length xcd,.slice xAt xtail.length xct,.int .i64 xpos])) _ from⟨σ',Im',.mk xk xt xm xa xb xAs xcs xsubs xAd xcd xdecls xAt xct xtail xpos,rfl,HVis.out _ _ (by rw[HX.out];exact hU4),F5.st,F5.sp,F5.gr,(zZ5 hK5 (fun b hb e=>hM4.2.2 (e▸hb)) (fun _ h=>h)).1 _ hO4⟩)
     obtain⟨z0,z1,z2,z3,z4,z5,z6,z7,z8⟩:=zZ6 hB5
     clear zf0 zf1 zf2 zf3 zf4 zf5 zf6 zf7 zf8 y0 y1 y2 y3 y4 y5 y6 y7 y8
     refine bodyPost_ret (v:=.agg #[.int .i64 xk,.string ⟨xt.toArray⟩,.int .i64 xm,.string ⟨xa.toArray⟩,.string ⟨xb.toArray⟩,.slice xAs xsubs.length xcs,.slice xAd xdecls.length xcd,.slice xAt xtail.length xct,.int .i64 xpos]) ?_ rfl HR.out
     simp[results,Tryz.results93,go_sem,z0,z1,z2,z3,z4,z5,z6,z7,z8]
end
end Go.Proofs.YtdgehhgjgifikaaGreatDoor
