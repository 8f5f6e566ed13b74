/- What the claim needs of:SM SW. -/
import Derived.Test.YtdgehhgjgifikaaGreatDoorN25
import Derived.Shelf.SlSortCmp.KitK
import Derived.Deep.LoopGhost
namespace Go.Proofs.YtdgehhgjgifikaaGreatDoor
open Go.RowKit Go.Sort
theorem zC6 {α:Type}{lt:α→α→Bool}(hO:SWO lt){x y:α}(h:lt x y=true):lt y x=false:=by
 cases h2:lt y x with
 | false=>rfl
 | true=>
   have:=hO.trans _ _ _ h h2
   rw[hO.irrefl] at this
   cases this
section
variable {α:Type} [Inhabited α] {lt:α→α→Bool}
theorem SortedIn.le (hO:SWO lt){d:Array α}{a b i j:Nat}(h:SortedIn lt a b d)(hi:a≤i)(hij:i≤j)(hj:j < b):lt d[j]! d[i]! = false:=by
 rcases Nat.eq_or_lt_of_le hij with rfl | hlt
 ·exact hO.irrefl _
 ·exact h i j hi hlt hj
theorem yE8 {d1 d2 d3:Array α}{a mid b:Nat}(h1:PermIn a mid d1 d2)(s1:SortedIn lt a mid d2)(h2:PermIn mid b d2 d3)(s2:SortedIn lt mid b d3)(ham:a≤mid)(hmb:mid≤b)(hb:b≤d1.size)
  (hc:∀ i j,a≤i→i < mid→mid≤j→j < b→lt d1[j]! d1[i]! = false):SortedIn lt a b d3∧PermIn a b d1 d3:=by
 have hs2:d2.size=d1.size:=h1.1
 have hp:PermIn a b d1 d3:=permIn_trans _ _ _ a b (permIn_mono _ _ a mid a b (Nat.le_refl _) hmb hb h1) (permIn_mono _ _ mid b a b ham (Nat.le_refl _) (by omega) h2)
 refine⟨fun i j hi hij hj=>?_,hp⟩
 by_cases hjm:j < mid
 ·rw[h2.2.1 i (by omega),h2.2.1 j (by omega)]
  exact s1 i j hi hij hjm
 ·by_cases him:mid≤i
  ·exact s2 i j him hij hj
  ·have e1:=permIn_all d1 d2 a mid (fun x=>∀ j,mid≤j→j < b→lt d1[j]! x=false) (by omega) h1 (fun i hi hi' j hj hj'=>hc i j hi hi' hj hj')
   have e2:=permIn_all d2 d3 mid b (fun y=>lt y d2[i]! = false) (by omega) h2 (fun j hj hj'=>by
    rw[h1.2.1 j (by omega)]
    exact e1 i hi (by omega) j hj hj')
   rw[h2.2.1 i (by omega)]
   exact e2 j (by omega) hj
def Rot (d d':Array α)(lo m hi:Nat):Prop:=d'.size=d.size∧∀ x,d'[x]! = if lo≤x∧x < lo+(hi-m) then d[m+(x-lo)]! else if lo+(hi-m)≤x∧x < hi then d[x-(hi-m)]! else d[x]!
def SwR (d d':Array α)(a b n:Nat):Prop:=d'.size=d.size∧∀ x,d'[x]! = if a≤x∧x < a+n then d[b+(x-a)]! else if b≤x∧x < b+n then d[a+(x-b)]! else d[x]!
theorem xY3 (d:Array α){i j:Nat}(hi:i < d.size)(hj:j < d.size)(x:Nat):(swp d i j)[x]! = if x=i then d[j]! else if x=j then d[i]! else d[x]!:=by
 by_cases h1:x=i
 ·subst h1
  rw[if_pos rfl]
  by_cases h2:x=j
  ·subst h2;exact swp_right d x x hj
  ·exact swp_left d x j hi h2
 ·rw[if_neg h1]
  by_cases h2:x=j
  ·subst h2
   rw[if_pos rfl]
   exact swp_right d i x hj
  ·rw[if_neg h2]
   exact swp_other d i j x h1 h2
theorem SwR.start (d:Array α)(a b:Nat):SwR d d a b 0:=⟨rfl,fun x=>by rw[if_neg (by omega),if_neg (by omega)]⟩
theorem SwR.step {d dk:Array α}{a b n:Nat}(h:SwR d dk a b n)(hab:a+n < b)(hb:b+n < d.size):SwR d (swp dk (a+n) (b+n)) a b (n+1):=by
 refine⟨by rw[size_swp];exact h.1,fun x=>?_⟩
 rw[xY3 dk (by rw[h.1];omega) (by rw[h.1];omega)]
 by_cases h1:x=a+n
 ·subst h1
  rw[if_pos rfl,h.2,if_neg (by omega),if_neg (by omega),if_pos (by omega),show a+n-a=n by omega]
 ·rw[if_neg h1]
  by_cases h2:x=b+n
  ·subst h2
   rw[if_pos rfl,h.2,if_neg (by omega),if_neg (by omega),if_neg (by omega),if_pos (by omega),show b+n-b=n by omega]
  ·rw[if_neg h2,h.2]
   by_cases h3:a≤x∧x < a+n
   ·rw[if_pos h3,if_pos (by omega)]
   ·rw[if_neg h3]
    by_cases h4:b≤x∧x < b+n
    ·rw[if_pos h4,if_neg (by omega),if_pos (by omega)]
    ·rw[if_neg h4,if_neg (by omega),if_neg (by omega)]
def RotLeft (D dk:Array α)(m i j:Nat):Prop:=Rot dk D (m-i) m (m+j)
theorem RotLeft.first {D dk dn:Array α}{m i j:Nat}(h:RotLeft D dk m i j)(hij:j < i)(him:i≤m)(hs:SwR dk dn (m-i) m j):RotLeft D dn m (i-j) j:=by
 refine⟨h.1.trans hs.1.symm,fun x=>?_⟩
 have hx:=h.2 x
 rw[hx]
 have e1:m-i+(m+j-m)=m-i+j:=by omega
 have e2:m-(i-j)+(m+j-m)=m-i+j+j:=by omega
 have e3:m-(i-j)=m-i+j:=by omega
 rw[e1,e2,e3]
 by_cases h1:m-i≤x∧x < m-i+j
 ·rw[if_pos h1,if_neg (by omega),if_neg (by omega),hs.2,if_pos h1]
 ·rw[if_neg h1]
  by_cases h2:m-i+j≤x∧x < m+j
  ·rw[if_pos h2]
   by_cases h3:x < m-i+j+j
   ·rw[if_pos ⟨h2.1,h3⟩,hs.2,if_neg (by omega),if_pos (by omega)]
    congr 1
    omega
   ·rw[if_neg (by omega),if_pos (by omega),hs.2,if_neg (by omega),if_neg (by omega)]
  ·rw[if_neg h2,if_neg (by omega),if_neg (by omega),hs.2,if_neg h1]
   by_cases h4:m≤x∧x < m+j
   ·omega
   ·rw[if_neg h4]
theorem RotLeft.second {D dk dn:Array α}{m i j:Nat}(h:RotLeft D dk m i j)(hij:i < j)(him:i≤m)(hs:SwR dk dn (m-i) (m+j-i) i):RotLeft D dn m i (j-i):=by
 refine⟨h.1.trans hs.1.symm,fun x=>?_⟩
 rw[h.2 x]
 have e1:m-i+(m+j-m)=m-i+j:=by omega
 have e2:m-i+(m+(j-i)-m)=m-i+(j-i):=by omega
 rw[e1,e2]
 by_cases h1:m-i≤x∧x < m-i+(j-i)
 ·rw[if_pos (by omega),if_pos h1,hs.2]
  by_cases h2:m+(x-(m-i)) < m+j-i
  ·rw[if_neg (by omega),if_neg (by omega)]
  ·omega
 ·rw[if_neg h1]
  by_cases h2:m-i+(j-i)≤x∧x < m+(j-i)
  ·rw[if_pos h2]
   by_cases h3:m-i≤x∧x < m-i+j
   ·rw[if_pos h3,hs.2]
    have e:x-(m+(j-i)-m)=m-i+(m+(x-(m-i))-(m+j-i)):=by omega
    rw[e,if_pos (by omega)]
    congr 1
    omega
   ·omega
  ·rw[if_neg h2]
   by_cases h3:m-i≤x∧x < m-i+j
   ·rw[if_pos h3,hs.2,if_neg (by omega),if_pos (by omega)]
    omega
   ·rw[if_neg h3]
    by_cases h4:m-i+j≤x∧x < m+j
    ·rw[if_pos h4,hs.2,if_neg (by omega),if_pos (by omega)]
     congr 1
     omega
    ·rw[if_neg h4,hs.2,if_neg (by omega),if_neg (by omega)]
theorem RotLeft.last {D dk dn:Array α}{m i:Nat}(h:RotLeft D dk m i i)(him:i≤m)(hs:SwR dk dn (m-i) m i)(x:Nat):D[x]! = dn[x]!:=by
 rw[h.2 x,hs.2 x]
 by_cases h1:m-i≤x∧x < m-i+i
 ·rw[if_pos (by omega),if_pos h1]
 ·rw[if_neg (by omega),if_neg h1]
  by_cases h2:m≤x∧x < m+i
  ·rw[if_pos (by omega),if_pos h2]
   congr 1
   omega
  ·rw[if_neg (by omega),if_neg h2]
structure SymCut (lt:α→α→Bool)(d:Array α)(a m b s e:Nat):Prop where
 has:a≤s
 sm:s≤m
 me:m≤e
 eb:e≤b
 lo:s=a∨e=b∨lt d[e]! d[s-1]! = false
 hi:e=m∨s=m∨lt d[e-1]! d[s]! = true
theorem SymCut.cross (hO:SWO lt){d:Array α}{a m b s e:Nat}(h:SymCut lt d a m b s e)(h1:SortedIn lt a m d)(h2:SortedIn lt m b d){x y:Nat}(hx:(a≤x∧x < s)∨(m≤x∧x < e))(hy:(s≤y∧y < m)∨(e≤y∧y < b)):lt d[y]! d[x]! = false:=by
 have has:=h.has;have sm:=h.sm;have me:=h.me;have eb:=h.eb
 rcases hx with hx | hx <;> rcases hy with hy | hy
 ·exact h1 x y hx.1 (by omega) hy.2
 ·rcases h.lo with e1 | e1 | e1
  ·omega
  ·omega
  ·have q1:=SortedIn.le hO h2 (i:=e) (j:=y) me hy.1 hy.2
   have q2:=SortedIn.le hO h1 (i:=x) (j:=s-1) hx.1 (by omega) (by omega)
   exact hO.ntrans _ _ _ q1 (hO.ntrans _ _ _ e1 q2)
 ·rcases h.hi with e1 | e1 | e1
  ·omega
  ·omega
  ·have q1:=SortedIn.le hO h1 (i:=s) (j:=y) has hy.1 hy.2
   have q2:=SortedIn.le hO h2 (i:=x) (j:=e-1) hx.1 (by omega) (by omega)
   exact hO.ntrans _ _ _ q1 (hO.ntrans _ _ _ (zC6 hO e1) q2)
 ·exact h2 x y hx.1 (by omega) hy.2
theorem SymCut.turned (hO:SWO lt){d d1:Array α}{a m b s e mid:Nat}(h:SymCut lt d a m b s e)(h1:SortedIn lt a m d)(h2:SortedIn lt m b d)(hr:Rot d d1 s m e)(hmid:mid=s+(e-m)) :
  SortedIn lt a s d1∧SortedIn lt s mid d1∧SortedIn lt mid e d1∧SortedIn lt e b d1∧∀ i j,a≤i→i < mid→mid≤j→j < b→lt d1[j]! d1[i]! = false:=by
 have has:=h.has;have sm:=h.sm;have me:=h.me;have eb:=h.eb
 subst hmid
 have ea:∀ x,x < s→d1[x]! = d[x]!:=fun x hx=>by rw[hr.2,if_neg (by omega),if_neg (by omega)]
 have eb':∀ x,s≤x→x < s+(e-m)→d1[x]! = d[m+(x-s)]!:=fun x h1 h2=>by rw[hr.2,if_pos ⟨h1,h2⟩]
 have ec:∀ x,s+(e-m)≤x→x < e→d1[x]! = d[x-(e-m)]!:=fun x h1 h2=>by rw[hr.2,if_neg (by omega),if_pos ⟨h1,h2⟩]
 have ed:∀ x,e≤x→d1[x]! = d[x]!:=fun x hx=>by rw[hr.2,if_neg (by omega),if_neg (by omega)]
 refine⟨fun i j hi hij hj=>?_,fun i j hi hij hj=>?_,fun i j hi hij hj=>?_,fun i j hi hij hj=>?_,fun i j hi hi' hj hj'=>?_⟩
 ·rw[ea i (by omega),ea j hj]
  exact h1 i j hi hij (by omega)
 ·rw[eb' i hi (by omega),eb' j (by omega) hj]
  exact h2 _ _ (by omega) (by omega) (by omega)
 ·rw[ec i hi (by omega),ec j (by omega) hj]
  exact h1 _ _ (by omega) (by omega) (by omega)
 ·rw[ed i hi,ed j (by omega)]
  exact h2 i j (by omega) hij hj
 ·have hx:∃ x,d1[i]! = d[x]!∧((a≤x∧x < s)∨(m≤x∧x < e)):=by
   by_cases q:i < s
   ·exact⟨i,ea i q,.inl ⟨hi,q⟩⟩
   ·exact⟨_,eb' i (by omega) hi',.inr ⟨by omega,by omega⟩⟩
  have hy:∃ y,d1[j]! = d[y]!∧((s≤y∧y < m)∨(e≤y∧y < b)):=by
   by_cases q:j < e
   ·exact⟨_,ec j hj q,.inl ⟨by omega,by omega⟩⟩
   ·exact⟨j,ed j (by omega),.inr ⟨by omega,hj'⟩⟩
  obtain⟨x,e1,hx⟩:=hx
  obtain⟨y,e2,hy⟩:=hy
  rw[e1,e2]
  exact h.cross hO h1 h2 hx hy
def ShR (d d':Array α)(a i:Nat):Prop:=d'.size=d.size∧∀ x,d'[x]! = if a≤x∧x < i then d[x+1]! else if x=i then d[a]! else d[x]!
theorem ShR.start (d:Array α)(a:Nat):ShR d d a a:=⟨rfl,fun x=>by
 rw[if_neg (by omega)]
 split
 ·rename_i h;rw[h]
 ·rfl⟩
theorem ShR.step {d dk:Array α}{a k:Nat}(h:ShR d dk a k)(hak:a≤k)(hk:k+1 < d.size):ShR d (swp dk k (k+1)) a (k+1):=by
 refine⟨by rw[size_swp];exact h.1,fun x=>?_⟩
 rw[xY3 dk (by rw[h.1];omega) (by rw[h.1];omega)]
 by_cases h1:x=k
 ·subst h1
  rw[if_pos rfl,if_pos (by omega),h.2,if_neg (by omega),if_neg (by omega)]
 ·rw[if_neg h1]
  by_cases h2:x=k+1
  ·subst h2
   rw[if_pos rfl,if_neg (by omega),if_pos rfl,h.2,if_neg (by omega),if_pos rfl]
  ·rw[if_neg h2,h.2]
   by_cases h3:a≤x∧x < k
   ·rw[if_pos h3,if_pos (by omega)]
   ·rw[if_neg h3,if_neg (by omega),if_neg (by omega),if_neg h2]
theorem ShR.lo {d d':Array α}{a i x:Nat}(h:ShR d d' a i)(h1:a≤x)(h2:x < i):d'[x]! = d[x+1]!:=by rw[h.2,if_pos ⟨h1,h2⟩]
theorem ShR.mid {d d':Array α}{a i:Nat}(h:ShR d d' a i):d'[i]! = d[a]!:=by rw[h.2,if_neg (by omega),if_pos rfl]
theorem ShR.hi {d d':Array α}{a i x:Nat}(h:ShR d d' a i)(h1:i < x):d'[x]! = d[x]!:=by rw[h.2,if_neg (by omega),if_neg (by omega)]
theorem ShR.sorted (hO:SWO lt){d d':Array α}{a b i:Nat}(h:ShR d d' a i)(hi:a≤i)(hib:i < b)(hs:SortedIn lt (a+1) b d)(h1:i=a∨lt d[i]! d[a]! = true)(h2:i+1=b∨lt d[i+1]! d[a]! = false):SortedIn lt a b d':=by
 intro x y hx hxy hy
 by_cases x1:x < i
 ·rw[h.lo hx x1]
  by_cases y1:y < i
  ·rw[h.lo (by omega) y1]
   exact hs _ _ (by omega) (by omega) (by omega)
  ·by_cases y2:y=i
   ·rw[y2,h.mid]
    rcases h1 with h1 | h1
    ·omega
    ·exact hO.ntrans _ _ _ (zC6 hO h1) (SortedIn.le hO hs (by omega) (by omega) (by omega))
   ·rw[h.hi (by omega)]
    exact SortedIn.le hO hs (by omega) (by omega) (by omega)
 ·by_cases x2:x=i
  ·rw[x2,h.mid,h.hi (by omega)]
   rcases h2 with h2 | h2
   ·omega
   ·exact hO.ntrans _ _ _ (SortedIn.le hO hs (i:=i+1) (by omega) (by omega) (by omega)) h2
  ·rw[h.hi (by omega),h.hi (by omega)]
   exact hs _ _ (by omega) hxy hy
def ShL (d d':Array α)(i m:Nat):Prop:=d'.size=d.size∧∀ x,d'[x]! = if i < x∧x≤m then d[x-1]! else if x=i then d[m]! else d[x]!
theorem ShL.start (d:Array α)(m:Nat):ShL d d m m:=⟨rfl,fun x=>by
 rw[if_neg (by omega)]
 split
 ·rename_i h;rw[h]
 ·rfl⟩
theorem ShL.step {d dk:Array α}{m k:Nat}(h:ShL d dk (k+1) m)(hk:k+1≤m)(hm:m < d.size):ShL d (swp dk (k+1) k) k m:=by
 refine⟨by rw[size_swp];exact h.1,fun x=>?_⟩
 rw[xY3 dk (by rw[h.1];omega) (by rw[h.1];omega)]
 by_cases h1:x=k+1
 ·subst h1
  rw[if_pos rfl,if_pos (by omega),h.2,if_neg (by omega),if_neg (by omega),show k+1-1=k by omega]
 ·rw[if_neg h1]
  by_cases h2:x=k
  ·subst h2
   rw[if_pos rfl,if_neg (by omega),if_pos rfl,h.2,if_neg (by omega),if_pos rfl]
  ·rw[if_neg h2,h.2]
   by_cases h3:k+1 < x∧x≤m
   ·rw[if_pos h3,if_pos (by omega)]
   ·rw[if_neg h3,if_neg (by omega),if_neg (by omega),if_neg h2]
theorem ShL.lo {d d':Array α}{i m x:Nat}(h:ShL d d' i m)(h1:x < i):d'[x]! = d[x]!:=by rw[h.2,if_neg (by omega),if_neg (by omega)]
theorem ShL.mid {d d':Array α}{i m:Nat}(h:ShL d d' i m):d'[i]! = d[m]!:=by rw[h.2,if_neg (by omega),if_pos rfl]
theorem ShL.hi {d d':Array α}{i m x:Nat}(h:ShL d d' i m)(h1:i < x)(h2:x≤m):d'[x]! = d[x-1]!:=by rw[h.2,if_pos ⟨h1,h2⟩]
theorem ShL.sorted (hO:SWO lt){d d':Array α}{a m i:Nat}(h:ShL d d' i m)(hi:a≤i)(him:i≤m)(hs:SortedIn lt a m d)(h1:i=a∨lt d[m]! d[i-1]! = false)(h2:i=m∨lt d[m]! d[i]! = true):SortedIn lt a (m+1) d':=by
 intro x y hx hxy hy
 by_cases x1:x < i
 ·rw[h.lo x1]
  by_cases y1:i < y
  ·rw[h.hi y1 (by omega)]
   exact SortedIn.le hO hs (by omega) (by omega) (by omega)
  ·by_cases y2:y=i
   ·rw[y2,h.mid]
    rcases h1 with h1 | h1
    ·omega
    ·exact hO.ntrans _ _ _ h1 (SortedIn.le hO hs (by omega) (by omega) (by omega))
   ·rw[h.lo (by omega)]
    exact hs _ _ (by omega) hxy (by omega)
 ·by_cases x2:x=i
  ·rw[x2,h.mid,h.hi (by omega) (by omega)]
   rcases h2 with h2 | h2
   ·omega
   ·exact hO.ntrans _ _ _ (SortedIn.le hO hs (i:=i) (by omega) (by omega) (by omega)) (zC6 hO h2)
  ·rw[h.hi (by omega) (by omega),h.hi (by omega) (by omega)]
   exact hs _ _ (by omega) (by omega) (by omega)
end
open Go.Shelf
theorem drew_set (w:World)(p:Addr)(v:Value):w.drew.setCell p v=(w.setCell p v).drew:=rfl
abbrev SWI (w0:World)(blk off:Nat)(d:Array UG)(W:World):Prop:=SWK encG 5 w0 blk off d W
theorem zZ3 {w0 W:World}{blk off:Nat}{d0 d:Array UG}(R:RowK encG 5 w0 blk off d0)(S:SWI w0 blk off d W)(hs:d.size=d0.size){i:Nat}(hi:i < d.size) :
  W.cell? ⟨blk,off+i*5,none⟩=some (.int .i64 d[i]!.1.file)∧W.cell? ⟨blk,off+i*5+1,none⟩=some (.int .i64 d[i]!.1.pos)∧W.cell? ⟨blk,off+i*5+2,none⟩=some (.string ⟨d[i]!.1.name.toArray⟩)∧W.cell? ⟨blk,off+i*5+3,none⟩=some (.int .i64 d[i]!.1.kind)∧W.cell? ⟨blk,off+i*5+4,none⟩=some (.int .i64 d[i]!.1.depth)∧W.frozen? ⟨blk,off+i*5,none⟩=false∧W.frozen? ⟨blk,off+i*5+1,none⟩=false∧W.frozen? ⟨blk,off+i*5+2,none⟩=false∧W.frozen? ⟨blk,off+i*5+3,none⟩=false∧W.frozen? ⟨blk,off+i*5+4,none⟩=false:=by
 have h:=S.holds R.hblk R.hH hs
 exact⟨(h.cell (i:=i) (c:=0) hi (by decide)).1,(h.cell (i:=i) (c:=1) hi (by decide)).1,(h.cell (i:=i) (c:=2) hi (by decide)).1,(h.cell (i:=i) (c:=3) hi (by decide)).1,(h.cell (i:=i) (c:=4) hi (by decide)).1,(h.cell (i:=i) (c:=0) hi (by decide)).2,(h.cell (i:=i) (c:=1) hi (by decide)).2,(h.cell (i:=i) (c:=2) hi (by decide)).2,(h.cell (i:=i) (c:=3) hi (by decide)).2,(h.cell (i:=i) (c:=4) hi (by decide)).2⟩
theorem yU9 {w0 W:World}{blk off:Nat}{d0 d:Array UG}(R:RowK encG 5 w0 blk off d0)(S:SWI w0 blk off d W)(i j:Nat)(hi:i < d.size)(hj:j < d.size) :
  SWI w0 blk off (swp d i j) ((((((((((((W.setCell ⟨blk,off+i*5,none⟩ (.int .i64 d[j]!.1.file)).setCell ⟨blk,off+i*5+1,none⟩ (.int .i64 d[j]!.1.pos)).setCell ⟨blk,off+i*5+2,none⟩ (.string ⟨d[j]!.1.name.toArray⟩)).setCell ⟨blk,off+i*5+3,none⟩ (.int .i64 d[j]!.1.kind)).setCell ⟨blk,off+i*5+4,none⟩ (.int .i64 d[j]!.1.depth)).setCell ⟨blk,off+j*5,none⟩ (.int .i64 d[i]!.1.file)).setCell ⟨blk,off+j*5+1,none⟩ (.int .i64 d[i]!.1.pos)).setCell ⟨blk,off+j*5+2,none⟩ (.string ⟨d[i]!.1.name.toArray⟩)).setCell ⟨blk,off+j*5+3,none⟩ (.int .i64 d[i]!.1.kind)).setCell ⟨blk,off+j*5+4,none⟩ (.int .i64 d[i]!.1.depth))).drew):=by
 have h:SWI w0 blk off (swp d i j) (((((((((((W.drew.setCell ⟨blk,off+i*5,none⟩ (.int .i64 d[j]!.1.file)).setCell ⟨blk,off+i*5+1,none⟩ (.int .i64 d[j]!.1.pos)).setCell ⟨blk,off+i*5+2,none⟩ (.string ⟨d[j]!.1.name.toArray⟩)).setCell ⟨blk,off+i*5+3,none⟩ (.int .i64 d[j]!.1.kind)).setCell ⟨blk,off+i*5+4,none⟩ (.int .i64 d[j]!.1.depth)).setCell ⟨blk,off+j*5,none⟩ (.int .i64 d[i]!.1.file)).setCell ⟨blk,off+j*5+1,none⟩ (.int .i64 d[i]!.1.pos)).setCell ⟨blk,off+j*5+2,none⟩ (.string ⟨d[i]!.1.name.toArray⟩)).setCell ⟨blk,off+j*5+3,none⟩ (.int .i64 d[i]!.1.kind)).setCell ⟨blk,off+j*5+4,none⟩ (.int .i64 d[i]!.1.depth))):=S.swapped R i j hi hj
 simp only[drew_set] at h
 exact h
set_option maxRecDepth 100000 in
set_option maxHeartbeats 4000000 in
theorem zN1 (blk off cap a b n:Nat)(d0 d:Array UG)(f:Value)(w0 w:World)(R:RowK encG 5 w0 blk off d0)(S:SWI w0 blk off d w)(hs:d.size=d0.size)(hab:a+n≤b)(hb:b+n≤d0.size)(hsz:d0.size≤1048576) :
  Calls Tryz.prog 176 #[.slice (some ⟨blk,off,none⟩) d0.size cap,.int .i64 a,.int .i64 b,.int .i64 n,f] w fun e w'=>e=.returned (.tuple #[])∧∃ d',SwR d d' a b n∧PermIn a (b+n) d d'∧SWI w0 blk off d' w':=by
 have HS0:=Lib.hid S
 have mixed:=Tryz.insU.mixed
 clear S
 go_enter Tryz.func176,Tryz.ntmps176
 go_wp2
 go_loopw [10] (fun i wr=>∃ (k:Nat) (dk:Array UG),k≤n∧i=.int .i64 (k:Nat)∧dk.size=d.size∧Hid (SwR d dk a b k∧PermIn a (b+n) d dk)∧Hid (SWI w0 blk off dk wr)) (fun i _=>n-(intOf i).toNat)
 case atStart=>exact⟨0,d,Nat.zero_le _,rfl,rfl,Lib.hid ⟨SwR.start d a b,permIn_refl _ _ _⟩,HS0⟩
 case round=>
  obtain⟨k,dk,hk,rfl,hds,HP,HS⟩:=hrel
  by_cases hlt:k < n
  ·have hlt':(k:Int) < (n:Int):=by omega
   have r1:IntKind.i64.wrap ((a:Int)+(k:Int))=(a:Int)+(k:Int):=by rw[IntKind.wrap_i64];omega
   have r2:IntKind.i64.wrap ((b:Int)+(k:Int))=(b:Int)+(k:Int):=by rw[IntKind.wrap_i64];omega
   have eI:((a:Int)+(k:Int)).toNat=a+k:=by omega
   have pI:(0:Int)≤(a:Int)+(k:Int):=by omega
   have bI:(a:Int)+(k:Int) < (d0.size:Int):=by omega
   have eJ:((b:Int)+(k:Int)).toNat=b+k:=by omega
   have pJ:(0:Int)≤(b:Int)+(k:Int):=by omega
   have bJ:(b:Int)+(k:Int) < (d0.size:Int):=by omega
   have S9:=Lib.hid (yU9 R HS.out (a+k) (b+k) (by omega) (by omega))
   obtain⟨xi0,xi1,xi2,xi3,xi4,xi5,xi6,xi7,xi8,xi9⟩:=zZ3 R HS.out (by omega) (i:=a+k) (by omega)
   obtain⟨xj0,xj1,xj2,xj3,xj4,xj5,xj6,xj7,xj8,xj9⟩:=zZ3 R HS.out (by omega) (i:=b+k) (by omega)
   generalize dk[a+k]! = XI at S9 xi0 xi1 xi2 xi3 xi4
   generalize dk[b+k]! = XJ at S9 xj0 xj1 xj2 xj3 xj4
   go_wp2_with fail
   go_big_region_o
   clear xi0 xj0 xi1 xj1 xi2 xj2 xi3 xj3 xi4 xj4 xi5 xj5 xi6 xj6 xi7 xj7 xi8 xj8 xi9 xj9 eI pI bI eJ pJ bJ
   all_goals go_wp2
   go_roundw
   case rel=>exact⟨k+1,_,by omega,by go_num,by rw[size_swp];exact hds,Lib.hid ⟨HP.out.1.step (by omega) (by omega),permIn_trans _ _ _ _ _ HP.out.2 (swp_permIn _ _ _ _ _ (by omega) (by omega) (by omega) (by omega) (by omega))⟩,S9⟩
   case measure=>simp[intOf];omega
  ·obtain rfl:k=n:=by omega
   have hlt':¬ (k:Int) < (k:Int):=by omega
   go_wp2
   go_end0
   exact⟨rfl,dk,HP.out.1,HP.out.2,HS.out⟩
theorem yE9 {α:Type} [Inhabited α] (d:Array α){a m b:Nat}(h1:a≤m)(h2:m≤b)(hb:b≤d.size):∃ D,Rot d D a m b:=by
 refine⟨(Array.range d.size).map fun x=>if a≤x∧x < a+(b-m) then d[m+(x-a)]! else if a+(b-m)≤x∧x < b then d[x-(b-m)]! else d[x]!,by simp,fun x=>?_⟩
 by_cases hx:x < d.size
 ·rw[getElem!_pos _ x (by simpa using hx)]
  simp
 ·rw[getElem!_neg _ x (by simpa using hx),if_neg (by omega),if_neg (by omega),getElem!_neg _ x hx]
theorem Rot.of_eq {D d d':Array UG}{a m b:Nat}(h:Rot d D a m b)(hs:d'.size=D.size)(he:∀ x:Nat,D[x]! = d'[x]!):Rot d d' a m b:=⟨hs.trans h.1,fun x=>by rw[←he];exact h.2 x⟩
set_option maxRecDepth 100000 in
set_option maxHeartbeats 4000000 in
theorem yD0 (blk off cap a m b:Nat)(d0 d:Array UG)(f:Value)(w0 w:World)(R:RowK encG 5 w0 blk off d0)(S:SWI w0 blk off d w)(hs:d.size=d0.size)(ham:a < m)(hmb:m < b)(hb:b≤d0.size)(hsz:d0.size≤1048576) :
  Calls Tryz.prog 149 #[.slice (some ⟨blk,off,none⟩) d0.size cap,.int .i64 a,.int .i64 m,.int .i64 b,f] w fun e w'=>e=.returned (.tuple #[])∧∃ d',Rot d d' a m b∧PermIn a b d d'∧SWI w0 blk off d' w':=by
 have HS0:=Lib.hid S
 have mixed:=Tryz.insU.mixed
 obtain⟨D,hD⟩:=yE9 d (a:=a) (m:=m) (b:=b) (by omega) (by omega) (by omega)
 have HD:=Lib.hid hD
 clear S hD
 have wi:IntKind.i64.wrap ((m:Int)-(a:Int))=((m-a:Nat):Int):=by rw[IntKind.wrap_i64];omega
 have wj:IntKind.i64.wrap ((b:Int)-(m:Int))=((b-m:Nat):Int):=by rw[IntKind.wrap_i64];omega
 go_enter Tryz.func149,Tryz.ntmps149
 go_wp2
 go_loopw [10,11] (fun vi vj wr=>∃ (i j:Nat) (dk:Array UG),0 < i∧0 < j∧a+i≤m∧m+j≤b∧vi=.int .i64 (i:Nat)∧vj=.int .i64 (j:Nat)∧dk.size=d.size∧Hid (RotLeft D dk m i j∧PermIn a b d dk)∧Hid (SWI w0 blk off dk wr)) (fun vi vj _=>(intOf vi).toNat+(intOf vj).toNat)
 case atStart=>exact⟨m-a,b-m,d,by omega,by omega,by omega,by omega,by first | rfl | go_num,by first | rfl | go_num,rfl,Lib.hid ⟨by unfold RotLeft;rw[show m-(m-a)=a by omega,show m+(b-m)=b by omega];exact HD.out,permIn_refl _ _ _⟩,HS0⟩
 case round=>
  obtain⟨i,j,dk,hi0,hj0,him,hjb,rfl,rfl,hds,HP,HS⟩:=hrel
  have wmi:IntKind.i64.wrap ((m:Int)-(i:Int))=((m-i:Nat):Int):=by rw[IntKind.wrap_i64];omega
  have wmj:IntKind.i64.wrap ((m:Int)+(j:Int))=((m+j:Nat):Int):=by rw[IntKind.wrap_i64];omega
  by_cases hne:i=j
  ·subst hne
   have hbe:((i:Int) == (i:Int))=true:=by simp
   have hde:decide ((i:Int)=(i:Int))=true:=by simp
   have cS:=zN1 blk off cap (m-i) m i d0 dk f w0 wr R HS.out (by omega) (by omega) (by omega) hsz
   go_wp2_with fail
   refine cS.mono ?_
   rintro e w2 ⟨rfl,d',h1,h2,h3⟩
   go_wp2
   go_end0
   exact⟨rfl,d',Rot.of_eq HD.out (by rw[h1.1,hds,HD.out.1]) (HP.out.1.last (by omega) h1),permIn_trans _ _ _ _ _ HP.out.2 (permIn_mono _ _ _ _ _ _ (by omega) (by omega) (by omega) h2),h3⟩
  ·have hne':¬ (i:Int)=(j:Int):=by omega
   have hbe:((i:Int) == (j:Int))=false:=by simpa using hne'
   have hde:decide ((i:Int)=(j:Int))=false:=by simpa using hne'
   by_cases hij:j < i
   ·have hij':(j:Int) < (i:Int):=by omega
    have wij:IntKind.i64.wrap ((i:Int)-(j:Int))=((i-j:Nat):Int):=by rw[IntKind.wrap_i64];omega
    have cS:=zN1 blk off cap (m-i) m j d0 dk f w0 wr R HS.out (by omega) (by omega) (by omega) hsz
    go_wp2_with fail
    refine cS.mono ?_
    rintro e w2 ⟨rfl,d',h1,h2,h3⟩
    have HN:=Lib.hid (And.intro (HP.out.1.first hij (by omega) h1) (permIn_trans _ _ _ _ _ HP.out.2 (permIn_mono _ _ _ _ _ _ (by omega) (by omega) (by omega) h2)))
    have H3:=Lib.hid h3
    have hs':d'.size=d.size:=by rw[h1.1,hds]
    clear h1 h2 h3 cS
    go_wp2
    go_roundw
    case rel=>exact⟨i-j,j,d',by omega,by omega,by omega,by omega,by first | rfl | go_num,rfl,hs',HN,H3⟩
    case measure=>simp[intOf];omega
   ·have hij':¬ (j:Int) < (i:Int):=by omega
    have wji:IntKind.i64.wrap ((j:Int)-(i:Int))=((j-i:Nat):Int):=by rw[IntKind.wrap_i64];omega
    have wmji:IntKind.i64.wrap (((m+j:Nat):Int)-(i:Int))=((m+j-i:Nat):Int):=by rw[IntKind.wrap_i64];omega
    have wmji2:IntKind.i64.wrap ((m:Int)+(j:Int)-(i:Int))=((m+j-i:Nat):Int):=by rw[IntKind.wrap_i64];omega
    have wmj2:IntKind.i64.wrap ((m:Int)+(j:Int))=(m:Int)+(j:Int):=by rw[IntKind.wrap_i64];omega
    have cS:=zN1 blk off cap (m-i) (m+j-i) i d0 dk f w0 wr R HS.out (by omega) (by omega) (by omega) hsz
    go_wp2_with fail
    refine cS.mono ?_
    rintro e w2 ⟨rfl,d',h1,h2,h3⟩
    have HN:=Lib.hid (And.intro (HP.out.1.second (by omega) (by omega) h1) (permIn_trans _ _ _ _ _ HP.out.2 (permIn_mono _ _ _ _ _ _ (by omega) (by omega) (by omega) h2)))
    have H3:=Lib.hid h3
    have hs':d'.size=d.size:=by rw[h1.1,hds]
    clear h1 h2 h3 cS
    go_wp2
    go_roundw
    case rel=>exact⟨i,j-i,d',by omega,by omega,by omega,by omega,rfl,by first | rfl | go_num,hs',HN,H3⟩
    case measure=>simp[intOf];omega
end Go.Proofs.YtdgehhgjgifikaaGreatDoor
