/- What the claim needs of:TN. -/
import Derived.Test.YtdgehhgjgifikaaGreatDoorN10
import Derived.Test.YtdgehhgjgifikaaGreatDoorN1
import Derived.Test.YtdgehhgjgifikaaGreatDoorProg
import Derived.Sort.KeysCollected
namespace Go.Proofs.YtdgehhgjgifikaaGreatDoor
open Go.RowKit Go.Sort
def KS:KeyT Tryz.prog 9 (List UInt8) where
 enc:=fun s=>.string ⟨s.toArray⟩
 ok:=fun s=>s.length≤maxLen
 lit:=fun s=>.string s
 keyed:=Maps.string_keyed Tryz.underlying9
 key:=fun s h=>by
  have:=WideMaps.keyOf_string_mk (P:=Tryz.prog) Tryz.underlying9 (s:=⟨s.toArray⟩) (by simpa[ByteArray.size] using h)
  simpa using this
 inv:=fun v l h=>by
  unfold keyOf mapKey at h
  simp only[Tryz.underlying9] at h
  cases v with
  | string b=>
    simp only at h
    split at h
    ·rename_i hb
     exact⟨b.data.toList,by rw[Array.length_toList];exact hb,rfl⟩
    ·cases h
  | _=>cases h
 encInj:=fun a b h=>by simpa using h
theorem yV2 {H:Type}{P:Program}{k:TypeId}{R:Value→Option (DataW H × List MemPlace)}{w:World}{b n:Nat}{D:DataW H}(h:w.ownsMap P k R b n D):w.ownsMap P k R b (Maps.size D) D:=by
 obtain⟨es,clock,hb,F,_,rfl⟩:=h
 refine⟨es,clock,hb,F,?_,rfl⟩
 simp[Maps.size,DataW.length_sorted]
theorem zO9 {α:Type} [DecidableEq α]:∀ (l m:List α),l.Nodup→(∀ x∈l,x∈m)→l.length≤m.length
 | [],m,_,_=>Nat.zero_le _
 | x ::l,m,h,hs=>by
   have hx:x∈m:=hs x (by simp)
   have ih:=zO9 l (m.erase x) (List.nodup_cons.1 h).2 fun y hy=>by
    refine(List.mem_erase_of_ne ?_).2 (hs y (by simp[hy]))
    rintro rfl
    exact(List.nodup_cons.1 h).1 hy
   rw[List.length_erase_of_mem hx] at ih
   have:=List.length_pos_of_mem hx
   simp only[List.length_cons]
   omega
theorem zF4 {D:DataW Value}{w:World}{b n:Nat}{f:List UInt8→Option Value}(hown:w.ownsMap Tryz.prog 9 Rv b n D)(ht:Tells KS D f) :
  (strKeys D).Nodup∧(∀ s∈strKeys D,s.length≤maxLen)∧(∀ s,s.length≤maxLen→(s∈strKeys D↔(f s).isSome=true))∧(strKeys D).length=Maps.size D:=by
 obtain⟨es,rfl,h1,h2⟩:=hown.entries KS.keyed
 obtain⟨es',e,h3⟩:=hown.keysOf
 injection e with e
 subst e
 have hk:∀ p∈es,∃ x:List UInt8,p.1=.string x∧x.length≤maxLen:=fun p hp=>by
  obtain⟨v,hv⟩:=h3 p hp
  obtain⟨x,_,h5,h6⟩:=Maps.keyOf_str Tryz.underlying9 hv
  exact⟨x,h5,h6⟩
 refine⟨?_,?_,?_,?_⟩
 ·show (es.map fun p=>strOf p.1).Nodup
  refine List.pairwise_map.2 (h1.imp_of_mem fun {p q} hp' hq' hne e=>hne ?_)
  obtain⟨a,ha,_⟩:=hk p hp'
  obtain⟨b,hb,_⟩:=hk q hq'
  rw[ha,hb] at e ⊢
  exact congrArg _ e
 ·intro s hs
  obtain⟨p,hp,rfl⟩:=List.mem_map.1 hs
  obtain⟨x,h5,h6⟩:=hk p hp
  rw[h5]
  exact h6
 ·intro s hs
  have hh:s∈strKeys (.map es)↔Maps.has (.map es) (.string s)=true:=by
   rw[Maps.has_eq,List.any_eq_true]
   constructor
   ·intro h
    obtain⟨p,hp,rfl⟩:=List.mem_map.1 h
    obtain⟨x,h5,h6⟩:=hk p hp
    exact⟨p,hp,by rw[h5];exact WideAt.sameKey_self (by exact True.intro)⟩
   ·rintro⟨p,hp,h⟩
    have:=WideAt.sameKey_eq h
    exact List.mem_map.2 ⟨p,hp,by rw[this];rfl⟩
  rw[hh]
  rcases ht s hs with ⟨h5,h6⟩ | ⟨v,h5,h6,_⟩
  ·have h6':Maps.has (.map es) (.string s)=false:=h6
   rw[h6',h5];simp
  ·have h6':Maps.has (.map es) (.string s)=true:=h6
   rw[h6',h5];simp
 ·show (es.map _).length=es.length
  rw[List.length_map]
theorem OMap.tight {w:World}{b n:Nat}{f:List UInt8→Option Value}(h:OMap KS w b n f)(L:List (List UInt8))(hL:∀ s,(f s).isSome=true→s∈L):OMap KS w b L.length f:=by
 obtain⟨D,h1,h2⟩:=h
 obtain⟨k1,k2,k3,k4⟩:=zF4 h1 h2
 refine⟨D,(yV2 h1).mono ?_,h2⟩
 rw[←k4]
 exact zO9 _ _ k1 fun s hs=>hL s ((k3 s (k2 s hs)).1 hs)
theorem OMap.keptK {w w':World}{M:Nat→Prop}{α:Type}{P:Program}{k:TypeId}{T:KeyT P k α}{b n:Nat}{f:α→Option Value}(h:OMap T w b n f)(hk:Kp M w w')(hM:¬ M b):OMap T w' b n f:=by
 obtain⟨D,⟨es,clock,hb,r⟩,h2⟩:=h
 have hlt:b < w.heap.size:=by
  rcases Nat.lt_or_ge b w.heap.size with hlt | hge
  ·exact hlt
  ·rw[Array.getElem?_eq_none hge] at hb;cases hb
 exact⟨D,⟨es,clock,(hk.block b hlt hM).trans hb,r⟩,h2⟩
theorem OMap.far {w:World}{α:Type}{P:Program}{k:TypeId}{T:KeyT P k α}{b n:Nat}{f:α→Option Value}(h:OMap T w b n f){p:Addr}(hp:b≠p.block)(u:Value):OMap T (w.setCell p u) b n f:=by
 obtain⟨D,⟨es,clock,hb,r⟩,h2⟩:=h
 exact⟨D,⟨es,clock,(Below.heap_setCell w p u b hp).trans hb,r⟩,h2⟩
theorem zY5 {α:Type}{P:Program}{k:TypeId}{T:KeyT P k α}{w:World}{b g q:Nat}{t:TypeId}{cs:Array Value}{f:α→Option Value}(h:Blk w g t cs)(hm:OMap T w b q f):g≠b:=by
 rintro rfl
 obtain⟨D,⟨es,clock,hb,_⟩,_⟩:=hm
 unfold Blk at h
 rw[h] at hb
 cases hb
end Go.Proofs.YtdgehhgjgifikaaGreatDoor
