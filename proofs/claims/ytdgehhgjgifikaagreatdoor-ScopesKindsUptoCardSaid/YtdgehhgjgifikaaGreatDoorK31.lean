/- What the claim needs of:Open. -/
import Derived.Test.YtdgehhgjgifikaaGreatDoorRows
import Derived.Test.YtdgehhgjgifikaaGreatDoorK1
import Derived.Deep.Slices
import Derived.OpenShut
namespace Go.Proofs.YtdgehhgjgifikaaGreatDoor
open Go.ChangeShapes Go.WideShapes Go.RowKit Go.Deep
theorem bulk_one {H:Type}(d:DataW H):1≤Rows.uptoBulk d:=by
 cases d with
 | lit l=>cases l <;> simp[Rows.uptoBulk]
 | nil=>simp[Rows.uptoBulk]
 | ptr d=>simp[Rows.uptoBulk]
 | slice elems spare=>simp[Rows.uptoBulk]
 | agg parts=>simp[Rows.uptoBulk]
 | iface t d=>simp[Rows.uptoBulk]
 | map entries=>simp[Rows.uptoBulk]
 | held h=>simp[Rows.uptoBulk]
theorem yZ1 {H:Type}{d:DataW H}{l:List (DataW H)}(h:d∈l):Rows.uptoBulk d≤Rows.uptoBulkAll l:=by
 induction l with
 | nil=>cases h
 | cons x r ih=>
   simp only[Rows.uptoBulkAll];cases List.mem_cons.1 h with
   | inl e=>subst e;omega
   | inr e=>have:=ih e;omega
theorem yZ2 {H:Type}(l:List (DataW H)):l.length≤Rows.uptoBulkAll l:=by
 induction l with
 | nil=>simp[Rows.uptoBulkAll]
 | cons x r ih=>have:=bulk_one x;simp only[Rows.uptoBulkAll,List.length_cons];omega
def zK8 {α:Type}(P:Program)(w:World)(B:Nat)(t:TypeId)(enc:α→List Value)(OK:α→Prop):Prop:=
 ∀ (H:Type) (enc0:TypeId × Value→H) (sp:Nat→Bool) (held:Bool) (fuel:Nat) (cs:List Value) (x:DataW H × List MemPlace),DataW.trod enc0 P w 0 sp held fuel t cs=some x→Rows.uptoBulk x.1≤B→∃ y,cs=enc y∧OK y
section
variable {P:Program}{w:World}{B:Nat}
theorem zQ9 {t:TypeId}{k:IntKind}(ht:P.underlying t=some (.int k)):zK8 P w B t (fun n:Int=>[.int k n]) (fun n=>(Lit.int k n).wf=true):=by
 intro H enc0 sp held fuel cs x h _;obtain⟨n,rfl,_,hw⟩:=DataW.trod_int ht h;exact⟨n,rfl,hw⟩
theorem zX2 {t:TypeId}(ht:P.underlying t=some .string):zK8 P w B t (fun s:List UInt8=>[.string ⟨s.toArray⟩]) (fun s=>s.length≤B):=by
 intro H enc0 sp held fuel cs x h hB;obtain⟨s,rfl,rfl,_⟩:=DataW.trod_string ht h;refine⟨s.data.toList,rfl,?_⟩;simp only[Rows.uptoBulk] at hB;omega
theorem zD9 {H:Type}{xs:List (DataW H × List MemPlace)}{n:Nat}(h:xs.length=n):∀ i,∀ hi:i < n,xs[i]? = some (xs[i]' qG):=fun i hi=>List.getElem?_eq_getElem qG
theorem yQ9 {H:Type}{xs:List (DataW H × List MemPlace)}{i:Nat}{y:DataW H × List MemPlace}(h:xs[i]? = some y)(hB:Rows.uptoBulk (.agg (xs.map (·.1)))≤B):Rows.uptoBulk y.1≤B:=by
 have hm:y.1∈xs.map (·.1):=List.mem_map.2 ⟨y,List.mem_of_getElem? h,rfl⟩;have:=yZ1 hm;simp only[Rows.uptoBulk] at hB;omega
variable {α0 α1 α2:Type}{enc0:α0→List Value}{enc1:α1→List Value}{enc2:α2→List Value}{OK0:α0→Prop}{OK1:α1→Prop}{OK2:α2→Prop}
abbrev SlD (α:Type):=Option Addr × Nat × List α
def yZ3 {α:Type}(y:SlD α):List Value:=[.slice y.1 y.2.2.length y.2.1]
def SlOk {α:Type}(w:World)(B k:Nat)(enc:α→List Value)(OK:α→Prop)(y:SlD α):Prop:=
 Sl w w.heap.size k enc y.1 y.2.2∧(∀ z∈y.2.2,OK z)∧y.2.2.length≤y.2.1∧y.2.2.length≤B
theorem zP0 {α:Type}{enc:α→List Value}{OK:α→Prop}{t e:TypeId}{k:Nat}(ht:P.underlying t=some (.slice e))(hC:P.cellsOf e=k)(h0:0 < k)(hk:∀ y,(enc y).length=k)(he:zK8 P w B e enc OK) :
  zK8 P w B t (yZ3 (α:=α)) (SlOk w B k enc OK):=by
 intro H en sp held fuel cs x h hB;rcases open_slice ht h with ⟨rfl,rfl⟩ | ⟨a,len,cap,m,n,D,Pl,rfl,_,hl,hm,hmm,rfl,hi⟩
 ·exact⟨(none,0,[]),rfl,.inl rfl,by simp,Nat.le_refl _,Nat.zero_le _⟩
 ·have hlm:len≤m:=by rw[hmm];split <;> omega
  have hb1:len≤B:=by
   have h1:=yZ2 ((List.range len).map D);simp only[Rows.uptoBulk] at hB;simp at h1;omega
  have each:∀ i,i < len→∃ y,w.cells? 0 (a.add (i*k)) k=some (enc y)∧OK y:=by
   intro i hil;obtain⟨cs',h1,h2⟩:=hi i qG;rw[hC] at h1;have hbd:Rows.uptoBulk (D i)≤B:=by
    have hm:D i∈(List.range len).map D:=List.mem_map.2 ⟨i,List.mem_range.2 hil,rfl⟩;have:=yZ1 hm;simp only[Rows.uptoBulk] at hB;omega
   obtain⟨y,rfl,hy⟩:=he _ _ _ _ _ _ _ h2 hbd;exact⟨y,h1,hy⟩
  have hch:∃ f:Fin len→α,∀ i:Fin len,w.cells? 0 (a.add (i.1*k)) k=some (enc (f i))∧OK (f i):=⟨fun i=>(each i.1 i.2).choose,fun i=>(each i.1 i.2).choose_spec⟩;obtain⟨f,hf⟩:=hch;have hlen:(List.ofFn f).length=len:=by simp
  refine⟨(some a,cap,List.ofFn f),by simp[yZ3],?_,?_,by show (List.ofFn f).length≤cap;omega,by show (List.ofFn f).length≤B;omega⟩
  ·exact vC
  ·intro z hz;obtain⟨i,rfl⟩:=List.mem_ofFn.1 hz;exact(hf i).2
end
end Go.Proofs.YtdgehhgjgifikaaGreatDoor
