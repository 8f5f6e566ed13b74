/- What the claim needs of:Glob YD Reg Fct Fcl. -/
import Derived.Test.YtdgehhgjgifikaaGreatDoorK3
import Derived.Test.YtdgehhgjgifikaaGreatDoorK1
import Derived.Test.YtdgehhgjgifikaaGreatDoorK2
import Derived.Lib.IndexAny
import Derived.Orders
namespace Go.Proofs.YtdgehhgjgifikaaGreatDoor
open Go.RowKit
def Glob (w:World):Prop:=∃ m,w.cell? ⟨0,0,none⟩=some (.int .i64 m)
theorem Glob.keep {w w':World}(h:Glob w)(hb:Below w.heap.size w w'):Glob w':=by
 obtain⟨m,hm⟩:=h;exact⟨m,zY1 hb hm⟩
theorem Glob.alloc {w:World}(h:Glob w)(o:Obj):Glob (w.alloc o):=h.keep (qH.alloc qJ _)
theorem Glob.drew {w:World}(h:Glob w):Glob w.drew:=h.keep qH.drew
theorem has10 (s:Tx):decide (0≤Lib.indexByte s 10)=decide ((10:UInt8)∈s):=by
 rw[←Lib.contains_iff_indexByte,Bool.eq_iff_iff];simp
theorem yD4 (s:Tx)(w:World):Calls Tryz.prog 138 #[.string ⟨s.toArray⟩] w fun e w'=>e=.returned (.bool (decide ((10:UInt8)∈s)))∧w=w':=by
 have cS:Calls Tryz.prog 139 #[.string ⟨s.toArray⟩,.string ⟨#[10]⟩] w fun e w'=>e=.returned (.bool (decide ((10:UInt8)∈s)))∧w'=w:=by
  have h:=Tryz.strings_Contains_one ⟨s.toArray⟩ 10 w;have e:=has10 s;refine h.mono fun e1 w1 ⟨h1,h2⟩=>⟨?_,h2⟩;rw[h1];exact congrArg (fun b=>Ending.returned (.bool b)) e
 generalize decide ((10:UInt8)∈s)=r at cS ⊢;go_enter Tryz.func138,Tryz.ntmps138
 go_wp2_with fail
 refine cS.mono ?_;rintro e w' ⟨rfl,rfl⟩;go_wp2;go_ret;exact⟨rfl,rfl⟩
set_option maxHeartbeats 1000000 in
theorem yD5 (A:Option Addr)(c:Nat)(l:List Tx)(w:World)(hA:Sl w w.heap.size 1 encS A l)(hl:l.length≤1099511627776) :
  Calls Tryz.prog 167 #[.slice A l.length c,.func (.func 138) #[] #[]] w (RetIx (zY2 l=true) w):=by
 have HA:=qK hA;clear hA;go_enter Tryz.func167,Tryz.ntmps167
 go_wp2
 go_loop [8] (fun i=>∃ k:Nat,k≤l.length∧i=.int .i64 (k:Nat)∧Hid (zY2 (l.take k)=false)) (fun i=>l.length-(intOf i).toNat)
 case atStart=>exact⟨0,Nat.zero_le _,rfl,qK rfl⟩
 case round=>
  obtain⟨k,hk,rfl,HN⟩:=hrel;by_cases hlt:k < l.length
  ·have hlt':(k:Int) < (l.length:Int):=by omega
   obtain⟨b,off,rfl,hb,hc⟩:=HA.out.at_ hlt;have g0:=hc 0 _ rfl;simp only[Nat.mul_one,Nat.add_zero] at g0;have HM:=qK (List.getElem_mem hlt);have HT:=qK (List.take_succ_eq_append_getElem hlt);clear hc;generalize l[k]=x at g0 HM HT;have cL:=yD4 x w;cases hx:decide ((10:UInt8)∈x)
   ·rw[hx] at cL;have HX:=qK hx;clear hx;go_wp2_with fail
    refine cL.mono ?_;rintro e w' ⟨rfl,rfl⟩;clear cL;go_wp2
    go_round
    case rel=>exact⟨k+1,by omega,by go_num,qK (by rw[HT.out];unfold zY2 at *;rw[List.any_append,HN.out];simp only[List.any_cons,List.any_nil];rw[HX.out];rfl)⟩
    case measure=>simp[intOf];omega
   ·rw[hx] at cL;have HX:=qK hx;clear hx;go_wp2_with fail
    refine cL.mono ?_;rintro e w' ⟨rfl,rfl⟩;clear cL;go_wp2;go_ret;exact⟨k,⟨fun _=>List.any_eq_true.2 ⟨x,HM.out,HX.out⟩,fun _=>by omega⟩,rfl,rfl⟩
  ·obtain rfl:k=l.length:=by omega
   go_wp2;go_ret;exact⟨-1,⟨fun h=>by omega,fun h=>by have h2:=HN.out;rw[List.take_length,h] at h2;cases h2⟩,rfl,rfl⟩
theorem zL0 (A:Option Addr)(c:Nat)(l:List Tx)(w:World)(hA:Sl w w.heap.size 1 encS A l)(hl:l.length≤1099511627776) :
  Calls Tryz.prog 97 #[.slice A l.length c] w fun e w'=>e=.returned (.bool (!zY2 l))∧w=w':=by
 have cI:=yD5 A c l w hA hl;have cC:Calls Tryz.prog 137 #[.slice A l.length c,.func (.func 138) #[] #[]] w fun e w'=>e=.returned (.bool (zY2 l))∧w=w':=by
  clear hA;go_enter Tryz.func137,Tryz.ntmps137
  go_wp2_with fail
  refine cI.mono ?_;rintro e w1 ⟨i,hi,rfl,rfl⟩;have HI:=qK hi;clear hi cI;go_wp2;go_ret;exact⟨zL9 (by rw[Bool.eq_iff_iff,←HI.out];simp),rfl⟩
 clear cI hA;generalize zY2 l=r at cC ⊢;go_enter Tryz.func97,Tryz.ntmps97
 go_wp2_with fail
 refine cC.mono ?_;rintro e w1 ⟨rfl,rfl⟩;clear cC;go_wp2;go_ret;exact⟨rfl,rfl⟩
theorem yP9:∀ L:List Tx,((L.map fun x=>(⟨x.toArray⟩:ByteArray)).map Value.string)=L.flatMap encS
 | []=>rfl
 | x ::L=>by
   rw[List.map_cons,List.map_cons,yP9 L];rfl
theorem zD6 (s all:Tx)(L:List Tx)(w:World)(hG:Glob w)(hall:all.length≤1000)(hL:Lib.splitB ⟨#[32]⟩ 0 (Lib.countB ⟨all.toArray⟩ ⟨#[32]⟩) ⟨all.toArray⟩=L.map fun x=>⟨x.toArray⟩)(hc:Lib.countB ⟨all.toArray⟩ ⟨#[32]⟩+1=L.length)(hne:[]∉L)(hlL:L.length≤1000) :
  Calls Tryz.prog 214 #[.string ⟨s.toArray⟩,.string ⟨all.toArray⟩] w fun e w'=>e=.returned (.bool (decide (s∈L)))∧Below w.heap.size w w':=by
 obtain⟨m,hm⟩:=hG;have cS:=Tryz.strings_Split ⟨all.toArray⟩ ⟨#[32]⟩ m w (by simp[ByteArray.size];omega) hm (by simp[ByteArray.size]);rw[hL,hc] at cS;have cC:=zC4 (some ⟨w.heap.size,0,none⟩) L.length L s (w.alloc (.cells ((L.map fun x=>(⟨x.toArray⟩:ByteArray)).map Value.string).toArray 9)) ((Blk.new w 9 _).sl (enc:=encS) (fun _=>rfl) L (yP9 L)) qG;have HW:=qK (show Below w.heap.size w (w.alloc (.cells ((L.map fun x=>(⟨x.toArray⟩:ByteArray)).map Value.string).toArray 9)) from qH.alloc qJ _);generalize w.alloc (.cells ((L.map fun x=>(⟨x.toArray⟩:ByteArray)).map Value.string).toArray 9)=w1 at cS cC HW;clear hm hL hc;by_cases hs:s=[]
 ·subst hs;rw[decide_eq_false hne];have HB:=qK (Below.refl w.heap.size w);clear hne cS cC;go_enter Tryz.func214,Tryz.ntmps214
  go_wp2;go_ret;exact⟨rfl,HB.out⟩
 ·have hs1:(s != [])=true:=by simpa using hs
  have hs2:(s == [])=false:=beq_eq_false_iff_ne.2 hs;clear hne;generalize decide (s∈L)=r at cC ⊢;go_enter Tryz.func214,Tryz.ntmps214
  go_wp2_with fail
  refine cS.mono ?_;rintro e w2 ⟨rfl,rfl⟩;clear cS;go_wp2_with fail
  refine cC.mono ?_;rintro e w3 ⟨rfl,rfl⟩;clear cC;go_wp2;go_ret;exact⟨rfl,HW.out⟩
section
variable (s:Tx)(w:World)(hG:Glob w)
include hG
theorem xZ7:Calls Tryz.prog 214 #[.string ⟨s.toArray⟩,.string ⟨#[110,117,108,108,32,98,111,111,108,32,105,110,116,32,110,117,109,98,101,114,32,115,116,114,105,110,103]⟩] w fun e w'=>e=.returned (.bool (decide (s∈xZ1)))∧Below w.heap.size w w':=
 zD6 s [110,117,108,108,32,98,111,111,108,32,105,110,116,32,110,117,109,98,101,114,32,115,116,114,105,110,103] xZ1 w hG (by decide) (by decide +kernel) (by decide +kernel) (by decide) (by decide)
theorem yD6:Calls Tryz.prog 214 #[.string ⟨s.toArray⟩,.string ⟨#[60,32,60,61,32,62,32,62,61,32,33,61,32,61,126,32,33,126]⟩] w fun e w'=>e=.returned (.bool (decide (s∈yP4)))∧Below w.heap.size w w':=
 zD6 s [60,32,60,61,32,62,32,62,61,32,33,61,32,61,126,32,33,126] yP4 w hG (by decide) (by decide +kernel) (by decide +kernel) (by decide) (by decide)
theorem yD7:Calls Tryz.prog 214 #[.string ⟨s.toArray⟩,.string ⟨#[45,32,33]⟩] w fun e w'=>e=.returned (.bool (decide (s∈yP5)))∧Below w.heap.size w w':=
 zD6 s [45,32,33] yP5 w hG (by decide) (by decide +kernel) (by decide +kernel) (by decide) (by decide)
theorem yK3:Calls Tryz.prog 214 #[.string ⟨s.toArray⟩,.string ⟨#[43,32,45,32,42,32,47,32,37,32,61,61,32,33,61,32,60,32,60,61,32,62,32,62,61,32,38,38,32,124,124]⟩] w fun e w'=>e=.returned (.bool (decide (s∈zC2)))∧Below w.heap.size w w':=
 zD6 s [43,32,45,32,42,32,47,32,37,32,61,61,32,33,61,32,60,32,60,61,32,62,32,62,61,32,38,38,32,124,124] zC2 w hG (by decide) (by decide +kernel) (by decide +kernel) (by decide) (by decide)
end
section
variable {P:Program}{ops:Array Oper}{Q:Exit→Act→World→Prop}
def zH3 (ops:Array Oper)(L:Array Bool):Nat:=((List.range ops.size).filter fun i=>!L.getD i true).length
theorem yO0 {p q:Nat→Bool}(h:∀ j,p j=true→q j=true):∀ l:List Nat,(l.filter p).length≤(l.filter q).length
 | []=>by simp
 | x ::l=>by
   have ih:=yO0 h l;cases hp:p x
   ·cases hq:q x
    ·simpa[List.filter_cons,hp,hq] using ih
    ·simp only[List.filter_cons,hp,hq,if_true,List.length_cons,Bool.false_eq_true,if_false];omega
   ·simp only[List.filter_cons,hp,h x hp,if_true,List.length_cons];omega
theorem yO1 {p q:Nat→Bool}{i:Nat}(h:∀ j,p j=true→q j=true)(hp:p i=false)(hq:q i=true):∀ l:List Nat,i∈l→(l.filter p).length < (l.filter q).length
 | [],h=>by cases h
 | x ::l,hm=>by
   have hle:=yO0 h l;by_cases hx:i=x
   ·subst hx;simp only[List.filter_cons,hp,hq,if_true,List.length_cons,Bool.false_eq_true,if_false];omega
   ·have hm':i∈l:=by
     rcases List.mem_cons.1 hm with e | e
     ·exact absurd e hx
     ·exact e
    have ih:=yO1 h hp hq l hm';cases hp':p x
    ·cases hq':q x
     ·simpa[List.filter_cons,hp',hq'] using ih
     ·simp only[List.filter_cons,hp',hq',if_true,List.length_cons,Bool.false_eq_true,if_false];omega
    ·simp only[List.filter_cons,hp',h x hp',if_true,List.length_cons];omega
theorem yO2 {L:Array Bool}{i:Nat}(hi:i < ops.size)(hL:L.size=ops.size)(hf:L.getD i true=false):zH3 ops (L.setIfInBounds i true) < zH3 ops L:=by
 refine yO1 (i:=i) (fun j h=>?_) ?_ (by simp[hf]) _ (List.mem_range.2 hi)
 ·by_cases hj:i=j
  ·subst hj;simp[hL,hi] at h
  ·simpa[Array.getElem?_setIfInBounds_ne hj] using h
 ·simp[hL,hi]
theorem xZ8 {md:Region.Mode}(Inv:Array Bool→Act→World→Prop)(hsz:∀ L a w,Inv L a w→L.size=ops.size)
  (step:∀ L a w i,i∈Region.ready md ops L→Inv L a w→wpOp P ops Q i (Inv (L.setIfInBounds i true)) a w)
  (fin:∀ L a w,Region.ready md ops L=[]→Inv L a w→Q .normal a w) :
  ∀ fuel L a w,zH3 ops L≤fuel→Inv L a w→wpAny P md ops Q fuel L a w:=by
 intro fuel;induction fuel with
 | zero=>
   intro L a w hu hI;have hr:Region.ready md ops L=[]:=by
    unfold zH3 at hu;have h0:((List.range ops.size).filter fun i=>!L.getD i true)=[]:=List.eq_nil_of_length_eq_zero qG;unfold Region.ready;rw[List.filter_eq_nil_iff] at h0 ⊢;intro i hi hc;have:=h0 i hi;simp only[Bool.and_eq_true] at hc;exact this hc.1
   exact⟨hr,fin L a w hr hI⟩
 | succ fuel ih=>
   intro L a w hu hI;refine⟨fun hr=>fin L a w hr hI,fun i hi=>?_⟩;have hi':=hi;unfold Region.ready at hi';obtain⟨h1,h2⟩:=List.mem_filter.1 hi';simp only[Bool.and_eq_true,Bool.not_eq_true'] at h2;refine wpOp_mono (fun a' w' h=>?_) (step L a w i hi hI);refine ih _ _ _ ?_ h;have:=yO2 (ops:=ops) (List.mem_range.1 h1) (hsz L a w hI) h2.1;omega
theorem yU4 {id:Nat}{a:Act}{w:World}(hm:P.follows .mixedOrders=true)(Inv:Array Bool→Act→World→Prop)(hsz:∀ L a w,Inv L a w→L.size=ops.size)
  (h0:Inv (Array.replicate ops.size false) a w.drew)
  (step:∀ L a w i,i∈Region.ready .any ops L→Inv L a w→wpOp P ops Q i (Inv (L.setIfInBounds i true)) a w)
  (fin:∀ L a w,Region.ready .any ops L=[]→Inv L a w→Q .normal a w):(Code.region id ops true).wp P Q a w:=
 wp_region_any hm (xZ8 Inv hsz step fin _ _ _ _ (by
  unfold zH3;exact Nat.le_trans (List.length_filter_le _ _) (by simp)) h0)
def yK4 (ops:Array Oper):Bool:=(List.range ops.size).all fun i=>((ops[i]?).map fun o=>o.after.all fun e=>!Region.binds .any e||decide (e.on < i)).getD false
theorem yD8 {L:Array Bool}(hwf:yK4 ops=true)(hr:Region.ready .any ops L=[])(hL:L.size=ops.size):∀ i,i < ops.size→L.getD i false=true:=by
 intro i;induction i using Nat.strongRecOn with
 | _ i ih=>
   intro hi;cases hb:L.getD i false with
   | true=>rfl
   | false=>
     exfalso;have hb':L.getD i true=false:=by
      have:i < L.size:=by omega
      simpa[this] using hb
     unfold Region.ready at hr;rw[List.filter_eq_nil_iff] at hr;refine hr i (List.mem_range.2 hi) ?_;have ho:ops[i]? = some ops[i]:=Array.getElem?_eq_getElem hi;unfold yK4 at hwf;have h1:=(List.all_eq_true.1 hwf) i (List.mem_range.2 hi);rw[ho] at h1 ⊢;simp only[Option.map_some,Option.getD_some,hb',Bool.not_false,Bool.true_and] at h1 ⊢;rw[Array.all_eq_true'] at h1 ⊢;intro e he;have h2:=h1 e he;simp only[Bool.or_eq_true,Bool.not_eq_true',decide_eq_true_eq] at h2 ⊢;rcases h2 with h2 | h2
     ·exact .inl h2
     ·exact .inr (ih e.on h2 qG)
theorem zS5 {id:Nat}{a:Act}{w:World}(hm:P.follows .mixedOrders=true)(Inv:Array Bool→Act→World→Prop)(hsz:∀ L a w,Inv L a w→L.size=ops.size)
  (h0:Inv (Array.replicate ops.size false) a w.drew)
  (step:∀ i o,ops[i]? = some o→∀ L a w,L.getD i true=false→(o.after.all fun e=>!Region.binds .any e||L.getD e.on false)=true→Inv L a w→
   if Region.wanted o (yielded ops a.tmps) then o.wp P a w (Inv (L.setIfInBounds i true)) Q∨(o.asks P a w∧LetsOut Q) else Inv (L.setIfInBounds i true) (a.put o.dst undef) w)
  (hwf:yK4 ops=true)(fin:∀ L a w,(∀ i,i < ops.size→L.getD i false=true)→Inv L a w→Q .normal a w):(Code.region id ops true).wp P Q a w:=
 yU4 hm Inv hsz h0 (fun L a w i hi hI=>by
  unfold Region.ready at hi;obtain⟨h1,h2⟩:=List.mem_filter.1 hi;simp only[Bool.and_eq_true,Bool.not_eq_true'] at h2;have hlt:=List.mem_range.1 h1;have ho:ops[i]? = some ops[i]:=Array.getElem?_eq_getElem hlt;have h3:=h2.2;rw[ho] at h3;simp only[Option.map_some,Option.getD_some] at h3;unfold wpOp;rw[ho];exact step i _ ho L a w h2.1 h3 hI) (fun L a w hr hI=>fin L a w (yD8 hwf hr (hsz L a w hI)) hI)
end
abbrev Fact:=Value→World→Prop
def isv (u:Value):Fact:=fun v _=>v=u
def nof:Fact:=fun _ _=>True
def MonoF (f:Fact):Prop:=∀ v W W',f v W→Below W.heap.size W W'→f v W'
theorem isv_mono (u:Value):MonoF (isv u):=fun _ _ _ h _=>h
theorem yH1:MonoF nof:=fun _ _ _ h _=>h
def nth:List Value→Nat→Option Value
 | [],_=>none
 | v ::_,0=>some v
 | _ ::l,n+1=>nth l n
theorem zH4:∀ (l:List Value)(n:Nat),nth l n=l[n]?
 | [],n=>by simp[nth]
 | v ::l,0=>by simp[nth]
 | v ::l,n+1=>by simp[nth,zH4 l n]
section
variable {P:Program}
def zS2 (ops:Array Oper)(i:Nat):Option Tmp:=(ops.toList[i]?).bind (·.dst)
def zT8 (ops:Array Oper)(x:Tmp):Bool:=ops.toList.all fun o=>o.dst != some x
def zW5 (ops:Array Oper)(j i:Nat):Bool:=match ops.toList[j]? with
 | some o=>o.after.toList.any fun e=>Region.binds .any e&&e.on == i
 | none=>false
def zV1 (ops:Array Oper):Nat→Nat→Nat→Bool
 | 0,j,i=>zW5 ops j i
 | n+1,j,i=>zW5 ops j i||match ops.toList[j]? with
   | some o=>o.after.toList.any fun e=>Region.binds .any e&&zV1 ops n e.on i
   | none=>false
def zV7:List (Option Tmp)→Bool
 | []=>true
 | none ::l=>zV7 l
 | some d ::l=>(l.all fun x=>x != some d)&&zV7 l
def xZ9:Bool→Prop→Prop→Prop
 | true,X,_=>X
 | false,_,Y=>Y
def isB (want:Bool):Value→Bool
 | .bool b=>b == want
 | _=>false
def OneOk (P:Program)(ops:Array Oper)(F:List Fact)(z:Nat)(w0:World)(a:Act)(i:Nat)(o:Oper)(f:Fact):Prop:=
 ∀ (A:Act) (W:World) (K:Act→World→Prop) (Q:Exit→Act→World→Prop),Below z w0 W→
   (∀ x v (_:zT8 ops x=true:=by kernel_rfl) (_:nth a.tmps.toList x=some v:=by exact rfl),A.tmps[x]? = some v)→
   (∀ e d (_:zV1 ops 3 i e=true:=by kernel_rfl) (_:zS2 ops e=some d:=by exact rfl),∃ v,A.tmps[d]? = some v∧(F.getD e nof) v W)→
   (∀ j d v,(j == i||zV1 ops 3 j i)=true→zS2 ops j=some d→nth a.tmps.toList d=some v→A.tmps[d]? = some v)→
   (∀ v W',f v W'→Below W.heap.size W W'→K (A.put o.dst v) W')→
   match o.guard with
   | none=>o.wp P A W K Q
   | some (g,want)=>∃ u d,zS2 ops g=some d∧A.tmps[d]? = some u∧xZ9 (isB want u) (o.wp P A W K Q) (f undef W)
def AllOk (P:Program)(ops:Array Oper)(F:List Fact)(z:Nat)(w0:World)(a:Act):Nat→List Oper→List Fact→Prop
 | i,o ::os,f ::fs=>OneOk P ops F z w0 a i o f∧AllOk P ops F z w0 a (i+1) os fs
 | _,[],[]=>True
 | _,_,_=>False
def zO9:List Fact→Prop
 | []=>True
 | f ::fs=>MonoF f∧zO9 fs
theorem qC {u:Value}{fs:List Fact}(h:zO9 fs):zO9 (isv u::fs):=⟨isv_mono u,h⟩
theorem qE {fs:List Fact}(h:zO9 fs):zO9 (nof::fs):=⟨yH1,h⟩
def zY0 (W:World)(G:Act→Prop):List Oper→List Fact→Act→Prop
 | o ::os,f ::fs,A=>match o.dst with
   | none=>zY0 W G os fs A
   | some d=>∀ v,f v W→zY0 W G os fs (A.put (some d) v)
 | _,_,A=>G A
structure Held (ops:Array Oper)(F:List Fact)(z:Nat)(w0:World)(a:Act)(L:Array Bool)(A:Act)(W:World):Prop where
 size:L.size=ops.size
 below:Below z w0 W
 len:A.tmps.size=a.tmps.size
 defers:A.defers=a.defers
 same:∀ x,zT8 ops x=true→A.tmps[x]? = a.tmps[x]?
 late:∀ i d,L.getD i false=false→zS2 ops i=some d→A.tmps[d]? = a.tmps[d]?
 closed:∀ i e,L.getD i false=true→zW5 ops i e=true→L.getD e false=true
 fact:∀ i d,L.getD i false=true→zS2 ops i=some d→∃ v,A.tmps[d]? = some v∧(F.getD i nof) v W
theorem Held.closedN {ops:Array Oper}{F:List Fact}{z:Nat}{w0:World}{a:Act}{L:Array Bool}{A:Act}{W:World}(h:Held ops F z w0 a L A W):∀ n i e,L.getD i false=true→zV1 ops n i e=true→L.getD e false=true
 | 0,i,e,hi,hw=>h.closed i e hi hw
 | n+1,i,e,hi,hw=>by
   unfold zV1 at hw;rcases Bool.or_eq_true _ _▸hw with h1 | h1
   ·exact h.closed i e hi h1
   ·exact vK
theorem zQ4:∀ {l:List Oper},zV7 (l.map (·.dst))=true→∀ {i j:Nat}{d:Tmp},(l[i]?).bind (·.dst)=some d→(l[j]?).bind (·.dst)=some d→i=j
 | [],_,i,j,d,hi,_=>by simp at hi
 | o ::l,h,i,j,d,hi,hj=>by
   have hall:∀ {k:Nat},o.dst=some d→(l[k]?).bind (·.dst)=some d→False:=by
    intro k ho hk;rw[List.map_cons,ho] at h;simp only[zV7,Bool.and_eq_true,List.all_eq_true] at h;cases hl:l[k]? with
    | none=>rw[hl] at hk;cases hk
    | some o'=>
      rw[hl] at hk;have:=h.1 (some d) (List.mem_map.2 ⟨o',List.mem_of_getElem? hl,hk⟩);simp at this
   have hd:zV7 (l.map (·.dst))=true:=by
    rw[List.map_cons] at h;cases ho:o.dst with
    | none=>rw[ho] at h;exact h
    | some x=>rw[ho] at h;simp only[zV7,Bool.and_eq_true] at h;exact h.2
   cases i with
   | zero=>
     cases j with
     | zero=>rfl
     | succ j=>exact(hall (by simpa using hi) (by simpa using hj)).elim
   | succ i=>
     cases j with
     | zero=>exact(hall (by simpa using hj) (by simpa using hi)).elim
     | succ j=>exact congrArg Nat.succ (zQ4 hd (by simpa using hi) (by simpa using hj))
theorem yU5 {ops:Array Oper}{F:List Fact}{z:Nat}{w0:World}{a:Act}:∀ {os:List Oper}{fs:List Fact}{k:Nat},AllOk P ops F z w0 a k os fs→∀ {i:Nat}{o:Oper},os[i]? = some o→∃ f,fs[i]? = some f∧OneOk P ops F z w0 a (k+i) o f
 | [],fs,k,_,i,o,ho=>by simp at ho
 | x ::os,[],k,h,i,o,ho=>h.elim
 | x ::os,f ::fs,k,h,i,o,ho=>by
   cases i with
   | zero=>
     simp only[List.getElem?_cons_zero,Option.some.injEq] at ho;subst ho;exact⟨f,rfl,h.1⟩
   | succ i=>
     obtain⟨g,h1,h2⟩:=yU5 h.2 (i:=i) (by simpa using ho);exact⟨g,by simpa using h1,by rw[show k+(i+1)=k+1+i by omega];exact h2⟩
theorem yX1:∀ {fs:List Fact},zO9 fs→∀ i,MonoF (fs.getD i nof)
 | [],_,i=>by simpa using yH1
 | f ::fs,h,0=>by simpa using h.1
 | f ::fs,h,i+1=>by simpa using yX1 h.2 i
theorem Held.put {ops:Array Oper}{F:List Fact}{z:Nat}{w0:World}{a:Act}{L:Array Bool}{A:Act}{W W':World}(hz:z≤w0.heap.size)(hmono:zO9 F)(hdis:zV7 (ops.toList.map (·.dst))=true)(h:Held ops F z w0 a L A W)
  {i:Nat}{o:Oper}(ho:ops[i]? = some o)(hd:(o.after.all fun e=>!Region.binds .any e||L.getD e.on false)=true)(hsz:∀ d,o.dst=some d→d < a.tmps.size){v:Value}
  (hv:(F.getD i nof) v W')(hb:Below W.heap.size W W'):Held ops F z w0 a (L.setIfInBounds i true) (A.put o.dst v) W':=by
 have hi:i < ops.size:=(Array.getElem?_eq_some_iff.1 ho).1;have ho':ops.toList[i]? = some o:=by rw[Array.getElem?_toList];exact ho
 have hdst:zS2 ops i=o.dst:=by unfold zS2;rw[ho'];rfl
 have hset:∀ k,k≠i→(L.setIfInBounds i true).getD k false=L.getD k false:=fun k hk=>by
  simp[Array.getElem?_setIfInBounds_ne (Ne.symm hk)]
 have hput:∀ x,o.dst≠some x→(A.put o.dst v).tmps[x]? = A.tmps[x]?:=fun x hx=>by
  cases hod:o.dst with
  | none=>rfl
  | some d=>
    have hne:d≠x:=fun e=>hx (by rw[hod,e]);simp[Act.put,Array.getElem?_setIfInBounds_ne hne]
 have hpi:∀ d,o.dst=some d→(A.put o.dst v).tmps[d]? = some v:=fun d hd=>by
  have hlt:d < A.tmps.size:=by rw[h.len];exact hsz d hd
  rw[hd];simp[Act.put,hlt]
 refine⟨by simpa using h.size,h.below.trans (hb.mono (Nat.le_trans hz h.below.size)),?_,?_,?_,?_,?_,?_⟩
 ·rw[←h.len];cases o.dst <;> simp[Act.put]
 ·exact xQ
 ·exact vP
 ·exact vL
 ·exact vF
 ·intro k d hk hkd;by_cases hki:k=i
  ·exact xS
  ·rw[hset k hki] at hk;obtain⟨u,h1,h2⟩:=h.fact k d hk hkd;refine⟨u,?_,yX1 hmono k _ _ _ h2 hb⟩;rw[hput d (fun hod=>hki ?_),h1];exact zQ4 hdis hkd (show (ops.toList[i]?).bind (·.dst)=some d by rw[ho'];exact hod)
theorem zO5 {W:World}{G:Act→Prop}{A:Act}:∀ (os:List Oper)(fs:List Fact)(B:Act),os.length=fs.length→zY0 W G os fs B→A.tmps.size=B.tmps.size→A.defers=B.defers→
  (∀ i d,(os[i]?).bind (·.dst)=some d→∃ v,A.tmps[d]? = some v∧(fs.getD i nof) v W)→(∀ x,(os.all fun o=>o.dst != some x)=true→A.tmps[x]? = B.tmps[x]?)→G A
 | [],fs,B,_,hG,hs,hdf,_,hsame=>by
   have:A=B:=by
    obtain⟨t,d⟩:=A;obtain⟨t',d'⟩:=B;simp only at hs hdf hsame;have e:t=t':=Array.ext_getElem? fun i=>hsame i (by simp);rw[e,hdf]
   subst this;cases fs <;> exact hG
 | o ::os,[],B,hl,_,_,_,_,_=>by simp at hl
 | o ::os,f ::fs,B,hl,hG,hs,hdf,hfact,hsame=>by
   unfold zY0 at hG;cases hd:o.dst with
   | none=>
     rw[hd] at hG;refine zO5 os fs B (by simpa using hl) hG hs hdf (fun i d h=>?_) (fun x hx=>hsame x ?_)
     ·exact hfact (i+1) d (by simpa using h)
     ·rw[List.all_cons,hx,hd];rfl
   | some d=>
     rw[hd] at hG;obtain⟨v,h1,h2⟩:=hfact 0 d (by simpa using hd);refine zO5 os fs _ (by simpa using hl) (hG v (by simpa using h2)) (by simpa[Act.put] using hs) (by simpa[Act.put] using hdf) (fun i d h=>hfact (i+1) d (by simpa using h)) (fun x hx=>?_);by_cases hxd:d=x
     ·subst hxd;have hlt:d < B.tmps.size:=by rw[←hs];exact(Array.getElem?_eq_some_iff.1 h1).1
      rw[h1];simp[Act.put,hlt]
     ·rw[hsame x (by rw[List.all_cons,hx,hd];simp[hxd])];simp[Act.put,Array.getElem?_setIfInBounds_ne hxd]
def dstLt (ops:Array Oper)(n:Nat):Bool:=ops.toList.all fun o=>match o.dst with | some d=>decide (d < n) | none=>true
variable {ops:Array Oper}{Q:Exit→Act→World→Prop}
theorem zZ3 {id:Nat}{a:Act}{w:World}(hm:P.follows .mixedOrders=true)(F:List Fact)(z:Nat)(w0:World)(hz:z≤w0.heap.size)(hw:Below z w0 w.drew)
  (hdis:zV7 (ops.toList.map (·.dst))=true)(hlt:dstLt ops a.tmps.size=true)(hwf:yK4 ops=true)
  (hmono:zO9 F)(steps:AllOk P ops F z w0 a 0 ops.toList F)(hlen:ops.toList.length=F.length)
  (fin:∀ W,Below z w0 W→zY0 W (fun A=>Q .normal A W) ops.toList F a):(Code.region id ops true).wp P Q a w:=by
 refine zS5 hm (Held ops F z w0 a) (fun L A W h=>h.size) ?_ ?_ hwf ?_
 ·refine⟨by simp,hw,rfl,rfl,fun _ _=>rfl,fun _ _ _ _=>rfl,fun i e h _=>?_,fun i d h _=>?_⟩;all_goals
   exfalso;simp only[Array.getD_eq_getD_getElem?,Array.getElem?_replicate] at h;split at h <;> simp at h
 ·intro i o ho L A W hL hdep hI;have ho':ops.toList[i]? = some o:=by rw[Array.getElem?_toList];exact ho
  have hi:i < ops.size:=(Array.getElem?_eq_some_iff.1 ho).1;have hLi:L.getD i false=false:=by
   have:i < L.size:=by rw[hI.size];exact hi
   simpa[this] using hL
  obtain⟨f,hf,h1⟩:=yU5 steps ho';rw[Nat.zero_add] at h1;have hfD:F.getD i nof=f:=by rw[List.getD_eq_getElem?_getD,hf];rfl
  have hsz:∀ d,o.dst=some d→d < a.tmps.size:=fun d hd=>by
   have:=(List.all_eq_true.1 hlt) o (List.mem_of_getElem? ho');rw[hd] at this;simpa using this
  have hput:∀ v W',f v W'→Below W.heap.size W W'→Held ops F z w0 a (L.setIfInBounds i true) (A.put o.dst v) W':=fun v W' hv hb=>
   hI.put hz hmono hdis ho hdep hsz (by rw[hfD];exact hv) hb
  have hdirect:∀ e,zW5 ops i e=true→L.getD e false=true:=fun e he=>by
   unfold zW5 at he;rw[ho'] at he;obtain⟨x,hx,hy⟩:=List.any_eq_true.1 he;obtain⟨h2,h3⟩:=Bool.and_eq_true _ _▸hy;rw[Array.all_eq_true'] at hdep;have h4:=hdep x (by simpa using hx);rw[h2] at h4;have h5:x.on=e:=by simpa using h3
   rw[h5] at h4;simpa using h4
  have hdirN:∀ n e,zV1 ops n i e=true→L.getD e false=true:=fun n e he=>by
   cases n with
   | zero=>exact hdirect e he
   | succ n=>
     unfold zV1 at he;rcases Bool.or_eq_true _ _▸he with h2 | h2
     ·exact hdirect e h2
     ·exact vI
  have h2:=h1 A W (Held ops F z w0 a (L.setIfInBounds i true)) Q hI.below
   (fun x v hx hv=>by rw[hI.same x hx,←Array.getElem?_toList,←zH4];exact hv)
   (fun e d he hd=>hI.fact e d (hdirN 3 e he) hd)
   (fun j d v hj hd hv=>by
    rw[hI.late j d ?_ hd,←Array.getElem?_toList,←zH4]
    ·exact hv
    ·rcases Bool.or_eq_true _ _▸hj with h3 | h3
     ·exact xA
     ·cases hlj:L.getD j false with
      | false=>rfl
      | true=>rw[hI.closedN 3 j i hlj h3] at hLi;cases hLi)
   hput
  unfold Region.wanted;cases hg:o.guard with
  | none=>
    rw[hg] at h2;simp only[if_true];exact .inl h2
  | some gw=>
    obtain⟨g,want⟩:=gw;rw[hg] at h2;obtain⟨u,d,h3,h4,h5⟩:=h2;have hy:(yielded ops A.tmps g == some want)=isB want u:=by
     unfold yielded;unfold zS2 at h3;rw[←Array.getElem?_toList,h3];simp only[Option.bind_some,h4];cases u <;> first | rfl | (rename_i b;cases b <;> cases want <;> rfl)
    simp only[hy];cases hbb:isB want u with
    | true=>
      rw[hbb] at h5;simp only[if_true];exact .inl h5
    | false=>
      rw[hbb] at h5;simp only[Bool.false_eq_true,if_false];exact hput _ _ h5 qH
 ·intro L A W hr hI;have hall:∀ i d,(ops.toList[i]?).bind (·.dst)=some d→∃ v,A.tmps[d]? = some v∧(F.getD i nof) v W:=fun i d hd=>by
   refine hI.fact i d (hr i ?_) hd;cases ho:ops.toList[i]? with
   | none=>rw[ho] at hd;cases hd
   | some o=>have:=(List.getElem?_eq_some_iff.1 ho).1;simpa using this
  exact zO5 (A:=A) ops.toList F a hlen (fin W hI.below) hI.len hI.defers hall hI.same
theorem zR5 {W:World}{G:Act→Prop}{o:Oper}{os:List Oper}{u:Value}{fs:List Fact}{A:Act}(d:Tmp)(hd:o.dst=some d)(h:zY0 W G os fs (A.put (some d) u)):zY0 W G (o ::os) (isv u ::fs) A:=by
 unfold zY0;rw[hd];intro v hv;obtain rfl:v=u:=hv;exact h
theorem qN {W:World}{G:Act→Prop}{o:Oper}{os:List Oper}{u:Value}{fs:List Fact}{A:Act}{d:Tmp}(h:zY0 W G os fs (A.put (some d) u))(hd:o.dst=some d:=by rfl):zY0 W G (o::os) (isv u::fs) A:=zR5 d hd h
theorem zZ4 {W:World}{G:Act→Prop}{o:Oper}{os:List Oper}{f:Fact}{fs:List Fact}{A:Act}(d:Tmp)(hd:o.dst=some d)(h:∀ v,f v W→zY0 W G os fs (A.put (some d) v)):zY0 W G (o ::os) (f ::fs) A:=by
 unfold zY0;rw[hd];exact h
theorem yU6 {W:World}{G:Act→Prop}{o:Oper}{os:List Oper}{f:Fact}{fs:List Fact}{A:Act}(hd:o.dst=none)(h:zY0 W G os fs A):zY0 W G (o ::os) (f ::fs) A:=by
 unfold zY0;rw[hd];exact h
theorem zL1 {W:World}{A A':Act}{fs:List Fact}(h:A=A')(hq:Q .normal A' W):zY0 W (fun A=>Q .normal A W) [] fs A:=by
 subst h;exact hq
end
section
variable {P:Program}{ops:Array Oper}{Q:Exit→Act→World→Prop}
def yO3 (ops:Array Oper):Bool:=(List.range (ops.size-1)).all fun i=>zV1 ops 9 (ops.size-1) i
def yD9:List Oper→Option Oper
 | []=>none
 | o ::l=>match yD9 l with
   | none=>some o
   | some x=>some x
def yU7:List Oper→List Oper
 | []=>[]
 | o ::l=>match l with
   | []=>[]
   | _ ::_=>o ::yU7 l
theorem yU8:∀ l:List Oper,yD9 l=l.getLast?
 | []=>rfl
 | [o]=>rfl
 | o ::x ::l=>by
   have h:=yU8 (x ::l);rw[List.getLast?_cons_cons,←h];show (match yD9 (x ::l) with | none=>some o | some y=>some y)=_;cases hl:yD9 (x ::l) with
   | none=>
     rw[hl] at h;have h2:=h.symm;rw[List.getLast?_eq_none_iff] at h2;cases h2
   | some y=>rfl
theorem zH5:∀ l:List Oper,yU7 l=l.dropLast
 | []=>rfl
 | [o]=>rfl
 | o ::x ::l=>by
   show o ::yU7 (x ::l)=_;rw[zH5 (x ::l)];rfl
theorem zZ5 {id:Nat}{a:Act}{w:World}(hm:P.follows .mixedOrders=true)(F:List Fact)(z:Nat)(w0:World)(hz:z≤w0.heap.size)(hw:Below z w0 w.drew)(hpos0:(ops.size == 0)=false)
  (hdis:zV7 (ops.toList.map (·.dst))=true)(hlt:dstLt ops a.tmps.size=true)(hwf:yK4 ops=true)(hlast:yO3 ops=true)
  (hmono:zO9 F)(steps0:AllOk P ops F z w0 a 0 (yU7 ops.toList) F)(hlen0:(yU7 ops.toList).length=F.length)(o:Oper)(ho0:yD9 ops.toList=some o)(hg:o.guard=none)
  (fin0:∀ W,Below z w0 W→∀ G:Act→Prop,(∀ A,o.wp P A W (fun A' W'=>Q .normal A' W') Q→G A)→zY0 W G (yU7 ops.toList) F a):(Code.region id ops true).wp P Q a w:=by
 have steps:=steps0;have hlen:=hlen0;have fin:=fun W hW=>fin0 W hW (fun A=>o.wp P A W (fun A' W'=>Q .normal A' W') Q) (fun _ h=>h);rw[zH5] at steps hlen;simp only[zH5] at fin;have ho:ops.toList.getLast? = some o:=(yU8 _).symm.trans ho0;have hpos:0 < ops.size:=by have:=beq_eq_false_iff_ne.1 hpos0;omega
 have hlst:ops.toList[ops.size-1]? = some o:=by rw[←Array.length_toList,←List.getLast?_eq_getElem?];exact ho
 have hpre:∀ i,i < ops.size-1→ops.toList.dropLast[i]? = ops.toList[i]?:=fun i hi=>by
  rw[List.dropLast_eq_take,List.getElem?_take];simp only[Array.length_toList];rw[if_pos hi]
 have hpre2:∀ i,ops.size-1≤i→ops.toList.dropLast[i]? = none:=fun i hi=>by
  rw[List.getElem?_eq_none_iff,List.length_dropLast,Array.length_toList];exact hi
 refine zS5 hm (fun L A W=>(L.getD (ops.size-1) false=false∧Held ops F z w0 a L A W)∨(L.size=ops.size∧(∀ i,i < ops.size→L.getD i false=true)∧Q .normal A W)) ?_ ?_ ?_ hwf ?_
 ·rintro L A W (⟨_,h⟩ | ⟨h,_⟩)
  ·exact h.size
  ·exact h
 ·refine .inl ⟨?_,by simp,hw,rfl,rfl,fun _ _=>rfl,fun _ _ _ _=>rfl,fun i e h _=>?_,fun i d h _=>?_⟩
  ·simp only[Array.getD_eq_getD_getElem?,Array.getElem?_replicate];split <;> rfl
  all_goals
   exfalso;simp only[Array.getD_eq_getD_getElem?,Array.getElem?_replicate] at h;split at h <;> simp at h
 ·intro i oi ho1 L A W hL hdep hI;have hi:i < ops.size:=(Array.getElem?_eq_some_iff.1 ho1).1;rcases hI with ⟨hf,hI⟩ | ⟨hs,hall,_⟩
  rotate_left
  ·exact xK
  have hLi:L.getD i false=false:=by
   have:i < L.size:=by rw[hI.size];exact hi
   simpa[this] using hL
  have ho':ops.toList[i]? = some oi:=by rw[Array.getElem?_toList];exact ho1
  have hsz:∀ d,oi.dst=some d→d < a.tmps.size:=fun d hd=>by
   have:=(List.all_eq_true.1 hlt) oi (List.mem_of_getElem? ho');rw[hd] at this;simpa using this
  have hdirect:∀ e,zW5 ops i e=true→L.getD e false=true:=fun e he=>by
   unfold zW5 at he;rw[ho'] at he;obtain⟨x,hx,hy⟩:=List.any_eq_true.1 he;obtain⟨h2,h3⟩:=Bool.and_eq_true _ _▸hy;rw[Array.all_eq_true'] at hdep;have h4:=hdep x (by simpa using hx);rw[h2] at h4;have h5:x.on=e:=by simpa using h3
   rw[h5] at h4;simpa using h4
  have hdirN:∀ n e,zV1 ops n i e=true→L.getD e false=true:=fun n e he=>by
   cases n with
   | zero=>exact hdirect e he
   | succ n=>
     unfold zV1 at he;rcases Bool.or_eq_true _ _▸he with h2 | h2
     ·exact hdirect e h2
     ·exact vI
  by_cases hil:i=ops.size-1
  ·subst hil;obtain rfl:oi=o:=Option.some.inj (ho'.symm.trans hlst);have hall:∀ j,j < ops.size-1→L.getD j false=true:=fun j hj=>hdirN 9 j ((List.all_eq_true.1 hlast) j (List.mem_range.2 hj));have hfin:=zO5 (A:=A) ops.toList.dropLast F a hlen (fin W hI.below) hI.len hI.defers (fun j d hd=>by
     by_cases hj:j < ops.size-1
     ·rw[hpre j hj] at hd;exact hI.fact j d (hall j hj) hd
     ·rw[hpre2 j qG] at hd;cases hd)
    (fun x hx=>by
     by_cases hod:oi.dst=some x
     ·exact hI.late (ops.size-1) x hf (by unfold zS2;rw[hlst];exact hod)
     ·refine hI.same x ?_;unfold zT8;rw[List.all_eq_true] at hx ⊢;intro y hy;have hsp:ops.toList=ops.toList.dropLast++ [oi]:=by
       obtain⟨ys,hys⟩:=List.getLast?_eq_some_iff.1 ho;rw[hys];simp
      rw[hsp] at hy;rcases List.mem_append.1 hy with h | h
      ·exact hx y h
      ·rw[List.mem_singleton.1 h];simpa using hod)
   unfold Region.wanted;rw[hg];simp only[if_true];refine .inl (Oper.wp_mono (fun A' W' h=>.inr ⟨by simpa using hI.size,fun j hj=>?_,h⟩) hfin);by_cases hj2:j=ops.size-1
   ·subst hj2;have:ops.size-1 < L.size:=by rw[hI.size];exact hj
    simp[this]
   ·exact vY
  ·have hi1:i < ops.size-1:=by omega
   obtain⟨f,hf2,h1⟩:=yU5 steps ((hpre i hi1).trans ho');rw[Nat.zero_add] at h1;have hfD:F.getD i nof=f:=by rw[List.getD_eq_getElem?_getD,hf2];rfl
   have hput:∀ v W',f v W'→Below W.heap.size W W'→((L.setIfInBounds i true).getD (ops.size-1) false=false∧Held ops F z w0 a (L.setIfInBounds i true) (A.put oi.dst v) W')∨((L.setIfInBounds i true).size=ops.size∧(∀ j,j < ops.size→(L.setIfInBounds i true).getD j false=true)∧Q .normal (A.put oi.dst v) W'):=fun v W' hv hb=>
    .inl ⟨by simpa[Array.getElem?_setIfInBounds_ne hil] using hf,hI.put hz hmono hdis ho1 hdep hsz (by rw[hfD];exact hv) hb⟩
   have h2:=h1 A W (fun A' W'=>((L.setIfInBounds i true).getD (ops.size-1) false=false∧Held ops F z w0 a (L.setIfInBounds i true) A' W')∨((L.setIfInBounds i true).size=ops.size∧(∀ j,j < ops.size→(L.setIfInBounds i true).getD j false=true)∧Q .normal A' W')) Q hI.below
    (fun x v hx hv=>by rw[hI.same x hx,←Array.getElem?_toList,←zH4];exact hv)
    (fun e d he hd=>hI.fact e d (hdirN 3 e he) hd)
    (fun j d v hj hd hv=>by
     rw[hI.late j d ?_ hd,←Array.getElem?_toList,←zH4]
     ·exact hv
     ·rcases Bool.or_eq_true _ _▸hj with h3 | h3
      ·exact xA
      ·cases hlj:L.getD j false with
       | false=>rfl
       | true=>rw[hI.closedN 3 j i hlj h3] at hLi;cases hLi)
    hput
   unfold Region.wanted;cases hgi:oi.guard with
   | none=>
     rw[hgi] at h2;simp only[if_true];exact .inl h2
   | some gw=>
     obtain⟨g,want⟩:=gw;rw[hgi] at h2;obtain⟨u,d,h3,h4,h5⟩:=h2;have hy:(yielded ops A.tmps g == some want)=isB want u:=by
      unfold yielded;unfold zS2 at h3;rw[←Array.getElem?_toList,h3];simp only[Option.bind_some,h4];cases u <;> first | rfl | (rename_i b;cases b <;> cases want <;> rfl)
     simp only[hy];cases hbb:isB want u with
     | true=>
       rw[hbb] at h5;simp only[if_true];exact .inl h5
     | false=>
       rw[hbb] at h5;simp only[Bool.false_eq_true,if_false];exact hput _ _ h5 qH
 ·exact xH
theorem zV2 {o:Oper}{W:World}{A A':Act}{fs:List Fact}{K:Act→World→Prop}{G:Act→Prop}(h:A=A')(hG:∀ A,o.wp P A W K Q→G A)(hq:o.wp P A' W K Q):zY0 W G [] fs A:=by
 subst h;exact hG _ hq
end
end Go.Proofs.YtdgehhgjgifikaaGreatDoor
