/- What the claim needs of:QN QM QO QP. -/
import Derived.Test.YtdgehhgjgifikaaGreatDoorN40
import Derived.Test.YtdgehhgjgifikaaGreatDoorN42
import Derived.Test.YtdgehhgjgifikaaGreatDoorN43
namespace Go.Proofs.YtdgehhgjgifikaaGreatDoor
open Go.RowKit Go.Sort
def numA (n:Int)(As Ad At:Option Addr)(cs cd ct:Nat):EA:=.mk 3 [] n [] [] As cs [] Ad cd [] At ct [] 0
set_option maxRecDepth 100000 in
set_option maxHeartbeats 4000000 in
theorem eqds_nil (A A':Option Addr)(c c':Nat)(w:World):Calls Tryz.prog 68 #[.slice A 0 c,.slice A' 0 c'] w fun e w'=>e=.returned (.bool true)∧Below w.heap.size w w':=by
 go_enter Tryz.func68,Tryz.ntmps68
 go_wp2
 go_loopw [16] (fun i wr=>i=.int .i64 0∧wr=w) (fun _ _=>0)
 case atStart=>exact⟨rfl,rfl⟩
 case round=>
  obtain⟨rfl,rfl⟩:=hrel
  go_wp2
  go_ret
  exact⟨rfl,Below.refl _ _⟩
theorem eq64 (W:World):(Op.equalIn 10000 64 (.agg #[.string ⟨#[]⟩,.string ⟨#[]⟩]) (.agg #[.string ⟨#[]⟩,.string ⟨#[]⟩])).run Tryz.prog W=.ok true W:=by kernel_rfl
set_option maxRecDepth 100000 in
set_option maxHeartbeats 4000000 in
theorem eqnum (n:Int)(As Ad At As' Ad' At':Option Addr)(cs cd ct cs' cd' ct':Nat)(w:World):Calls Tryz.prog 36 #[.agg (encE (numA n As Ad At cs cd ct)).toArray,.agg (encE (numA n As' Ad' At' cs' cd' ct')).toArray] w fun e w'=>e=.returned (.bool true)∧Below w.heap.size w w':=by
 have hb1:Below w.heap.size w ((w.alloc (.cells (encE (numA n As Ad At cs cd ct)).toArray 67)).alloc (.cells (encE (numA n As' Ad' At' cs' cd' ct')).toArray 67)):=((Below.refl w.heap.size w).alloc (Nat.le_refl _) _).alloc (by simp) _
 have Z1:=Lib.hid (show Blk ((w.alloc (.cells (encE (numA n As Ad At cs cd ct)).toArray 67)).alloc (.cells (encE (numA n As' Ad' At' cs' cd' ct')).toArray 67)) w.heap.size 67 (encE (numA n As Ad At cs cd ct)).toArray from(Blk.new w _ _).alloc _)
 have Z2:=Lib.hid (show Blk ((w.alloc (.cells (encE (numA n As Ad At cs cd ct)).toArray 67)).alloc (.cells (encE (numA n As' Ad' At' cs' cd' ct')).toArray 67)) (w.heap.size+1) 67 (encE (numA n As' Ad' At' cs' cd' ct')).toArray from by
  have:=Blk.new (w.alloc (.cells (encE (numA n As Ad At cs cd ct)).toArray 67)) 67 (encE (numA n As' Ad' At' cs' cd' ct')).toArray
  rw[World.size_alloc] at this
  exact this)
 have HB:=Lib.hid hb1
 clear hb1
 go_enter Tryz.func36,Tryz.ntmps36
 go_upto_region 1 with fail
 generalize (w.alloc (.cells (encE (numA n As Ad At cs cd ct)).toArray 67)).alloc (.cells (encE (numA n As' Ad' At' cs' cd' ct')).toArray 67)=w1 at Z1 Z2 HB ⊢
 have hc:∀ j v,(encE (numA n As Ad At cs cd ct))[j]? = some v→w1.cell? ⟨w.heap.size,j,none⟩=some v:=fun j v hv=>by rw[Z1.out.cell j];simpa using hv
 have hd:∀ j v,(encE (numA n As' Ad' At' cs' cd' ct'))[j]? = some v→w1.cell? ⟨w.heap.size+1,j,none⟩=some v:=fun j v hv=>by rw[Z2.out.cell j];simpa using hv
 have x0:=hc 0 _ rfl
 have x1:=hc 1 _ rfl
 have x2:=hc 2 _ rfl
 have x3:=hc 3 _ rfl
 have x4:=hc 4 _ rfl
 have x5:=hc 5 _ rfl
 have x6:=hc 6 _ rfl
 have x7:=hc 7 _ rfl
 have y0:=hd 0 _ rfl
 have y1:=hd 1 _ rfl
 have y2:=hd 2 _ rfl
 have y3:=hd 3 _ rfl
 have y4:=hd 4 _ rfl
 have y5:=hd 5 _ rfl
 have y6:=hd 6 _ rfl
 have y7:=hd 7 _ rfl
 clear hc hd
 have e64:=eq64 w1
 go_wp2_with fail
 refine(yG5 At At' ct ct' [] [] w1 (.inl rfl) (.inl rfl) (by simp) (by simp)).mono ?_
 rintro e w2 ⟨rfl,hb⟩
 rw[show decide (([]:List Tx)=[])=true from rfl]
 have HB2:=Lib.hid (HB.out.trans (hb.mono HB.out.size))
 have z5:w2.cell? ⟨w.heap.size,5,none⟩=some (.slice As 0 cs):=(hb.cell (p:=⟨w.heap.size,5,none⟩) Z1.out.lt).trans x5
 have z6:w2.cell? ⟨w.heap.size,6,none⟩=some (.slice Ad 0 cd):=(hb.cell (p:=⟨w.heap.size,6,none⟩) Z1.out.lt).trans x6
 have q6:w2.cell? ⟨w.heap.size+1,6,none⟩=some (.slice Ad' 0 cd'):=(hb.cell (p:=⟨w.heap.size+1,6,none⟩) Z2.out.lt).trans y6
 clear hb x0 x1 x2 x3 x4 x5 x6 x7 y0 y1 y2 y3 y4 y5 y6 y7 e64
 go_wp2
 go_loopw [52] (fun i wr=>i=.int .i64 0∧wr=w2) (fun _ _=>0)
 case atStart=>exact⟨rfl,rfl⟩
 case round=>
  obtain⟨rfl,rfl⟩:=hrel
  go_wp2_with fail
  refine(eqds_nil Ad Ad' cd cd' wr).mono ?_
  rintro e w3 ⟨rfl,hb3⟩
  have HB3:=Lib.hid (HB2.out.trans (hb3.mono HB2.out.size))
  clear hb3
  go_wp2
  go_ret
  exact⟨rfl,HB3.out⟩
def labC (i:Nat):Tx:=[UInt8.ofNat (97+i)]
def xC (n tg i:Nat):E:=if i+1 < n then zH5 (labC (i+1)) (i:Int) else if tg < n then zH5 (labC tg) (i:Int) else numX 1
def cyD (n tg:Nat):List D:=(List.range n).map fun i=>letX (labC i) (xC n tg i)
def cyP (n tg:Nat):Pk:=packX (cyD n tg) []
theorem labC_inj {i j:Nat}(hi:i < 26)(hj:j < 26)(h:labC i=labC j):i=j:=by
 unfold labC at h
 have h1:UInt8.ofNat (97+i)=UInt8.ofNat (97+j):=by simpa using h
 have h2:=congrArg UInt8.toNat h1
 simp at h2
 omega
theorem yW0 {f:Nat→Lt}{s:Tx}:∀ (l:List Nat),(∀ i∈l,(f i).name≠s)→zG7 (l.map f) s=none
 | [],_=>rfl
 | p ::r,h=>by
   rw[List.map_cons,zG7,yW0 r fun i hi=>h i (by simp[hi])]
   simp only
   rw[if_neg (h p (by simp))]
theorem yF0 {f:Nat→Lt}{s:Tx}{j:Nat}:∀ (l:List Nat),(∀ i∈l,(f i).name=s→i=j)→j∈l→(f j).name=s→zG7 (l.map f) s=some (f j)
 | p ::r,h,hj,hn=>by
   rw[List.map_cons,zG7]
   by_cases hr:j∈r
   ·rw[yF0 r (fun i hi=>h i (by simp[hi])) hr hn]
   ·have hp:p=j:=by
     rcases List.mem_cons.1 hj with h1 | h1
     ·exact h1.symm
     ·exact absurd h1 hr
    rw[yW0 r fun i hi e=>hr (by rw[←h i (by simp[hi]) e];exact hi)]
    simp only
    rw[if_pos (by rw[hp];exact hn),hp]
def yR0 (n tg:Nat):Scp:=zG9 (cyP n tg).files
theorem yB1 (n tg:Nat):(yR0 n tg).lets=(List.range n).map fun i=>(⟨labC i,[xC n tg i],0⟩:Lt):=by
 show yS3 (cyD n tg) 0++ []=_
 unfold yS3 cyD
 rw[List.append_nil]
 generalize List.range n=l
 induction l with
 | nil=>rfl
 | cons x l ih=>
   simp only[List.map_cons,List.filter_cons]
   rw[if_pos (show decide ((letX (labC x) (xC n tg x)).k=4)=true from rfl),List.map_cons,ih]
   rfl
theorem find_C {n tg j:Nat}(hn:n≤26)(hj:j < n):resR [[]] [yR0 n tg] [] 0 (labC j)=(2,0,some (⟨labC j,[xC n tg j],0⟩,[yR0 n tg])):=by
 have h:yZ0 (labC j) [yR0 n tg]=(2,0,some (⟨labC j,[xC n tg j],0⟩,[yR0 n tg])):=by
  rw[yZ0,yB1,yF0 (j:=j) (List.range n) (fun i hi e=>by
   have:=List.mem_range.1 hi
   exact labC_inj (by omega) (by omega) e) (List.mem_range.2 hj) rfl]
  rfl
 unfold resR
 rw[if_neg (by simp),h]
 exact if_neg (by simp)
theorem yF1 {n tg:Nat}(hn:n≤26)(ht:tg < n):∀ (N j:Nat),j < n→rzL [[]] N [xC n tg j] 0 [yR0 n tg]=none
 | 0,_,_=>rfl
 | N+1,j,hj=>by
   have H:∀ i pos,i < n→rzE (rzL [[]] N) [[]] (zH5 (labC i) pos) [yR0 n tg] [] 0=none:=fun i pos hi=>by
    unfold zH5
    rw[rzE,if_pos rfl,find_C hn hi]
    simp only
    rw[yF1 hn ht N i hi]
    rfl
   rw[rzL]
   unfold xC
   split
   ·exact H _ _ (by omega)
   ·first
    | exact H _ _ ht
    | (rw[if_pos ht];exact H _ _ ht)
theorem cyc_rz {n tg:Nat}(hn:n≤26)(h1:1≤n)(ht:tg < n)(N:Nat):rzP N (cyP n tg).files=none:=by
 cases hr:rzP N (cyP n tg).files with
 | none=>rfl
 | some r=>
   exfalso
   obtain⟨p1,q1,h2,_,_⟩:=zX0.1 hr
   have h2':rzDs (rzL [[]] N) [[]] (cyD n tg) [yR0 n tg] [] 0=some p1:=h2
   obtain⟨n',rfl⟩:∃ n',n=n'+1:=⟨n-1,by omega⟩
   unfold cyD at h2'
   rw[List.range_succ_eq_map,List.map_cons,rzDs] at h2'
   obtain⟨p2,q2,h3,_,_⟩:=zX0.1 h2'
   unfold letX at h3
   rw[rzD,rzEs] at h3
   obtain⟨p3,q3,h4,_,_⟩:=zX0.1 h3
   obtain⟨p4,q4,h5,_,_⟩:=zX0.1 h4
   have h6:=yF1 hn ht (N+1) 0 (by omega)
   rw[rzL] at h6
   have h7:rzE (rzL [[]] N) [[]] (xC (n'+1) tg 0) [yR0 (n'+1) tg] [] 0=some p4:=h5
   rw[h6] at h7
   cases h7
def errC (n:Nat):Bool:=(List.range (n+1)).all fun tg=>decide (errP rxT (cyP n tg)=0)&&decide (ndFs (cyP n tg).files≤1000)
theorem errC_all:(List.range 27).all errC=true:=by decide +kernel
theorem xC_ge {n tg tq:Nat}(h:n≤tg)(h':n≤tq):xC n tg=xC n tq:=by
 funext i
 unfold xC
 rw[if_neg (show ¬ tg < n from by omega),if_neg (show ¬ tq < n from by omega)]
theorem cyP_ge {n tg tq:Nat}(h:n≤tg)(h':n≤tq):cyP n tg=cyP n tq:=by
 unfold cyP cyD
 rw[xC_ge h h']
theorem yR1 {n tg:Nat}(hn:n≤26):errP rxT (cyP n tg)=0∧ndFs (cyP n tg).files≤1048576:=by
 have key:∀ t,t≤n→errP rxT (cyP n t)=0∧ndFs (cyP n t).files≤1048576:=fun t ht=>by
  have h1:=(List.all_eq_true.1 errC_all) n (List.mem_range.2 (by omega))
  have h2:=(List.all_eq_true.1 h1) t (List.mem_range.2 (by omega))
  simp only[Bool.and_eq_true,decide_eq_true_eq] at h2
  exact⟨h2.1,by omega⟩
 by_cases h:tg≤n
 ·exact key tg h
 ·rw[cyP_ge (show n≤tg from by omega) (Nat.le_refl n)]
  exact key n (Nat.le_refl n)
def chC (n:Nat):Nat→Nat→E
 | 0,_=>numX 1
 | k+1,i=>.mk 10 (labC (i+1)) 0 wLet [] [chC n k (i+1)] [] [] (i:Int)
def resC (n:Nat):List D:=(List.range n).map fun i=>letX (labC i) (chC n (n-1-i) i)
def okC (n:Nat):Bool:=match rzP (n+1) (cyP n n).files with
 | some r=>if n < 16 then !r.2&&(outF (cyP n n).files r.1).all fun f=>decide (errF rxT f=0) else r.2||(outF (cyP n n).files r.1).any fun f=>decide (errF rxT f≠0)
 | none=>false
theorem okC_all:(List.range 27).all okC=true:=by decide +kernel
theorem resC_at {n:Nat}(h:n < 16):∃ dp,rzP (n+1) (cyP n n).files=some ([resC n],dp):=by
 match n,h with
 | 0,_=>exact⟨false,by kernel_rfl⟩
 | 1,_=>exact⟨false,by kernel_rfl⟩
 | 2,_=>exact⟨false,by kernel_rfl⟩
 | 3,_=>exact⟨false,by kernel_rfl⟩
 | 4,_=>exact⟨false,by kernel_rfl⟩
 | 5,_=>exact⟨false,by kernel_rfl⟩
 | 6,_=>exact⟨false,by kernel_rfl⟩
 | 7,_=>exact⟨false,by kernel_rfl⟩
 | 8,_=>exact⟨false,by kernel_rfl⟩
 | 9,_=>exact⟨false,by kernel_rfl⟩
 | 10,_=>exact⟨false,by kernel_rfl⟩
 | 11,_=>exact⟨false,by kernel_rfl⟩
 | 12,_=>exact⟨false,by kernel_rfl⟩
 | 13,_=>exact⟨false,by kernel_rfl⟩
 | 14,_=>exact⟨false,by kernel_rfl⟩
 | 15,_=>exact⟨false,by kernel_rfl⟩
 | n+16,h=>exact absurd h (by omega)
theorem cyc_res {n tg:Nat}(h1:1≤n)(hn:n≤26){out:List Fl}{err:Int}(h:ResK rxT (cyP n tg) out err) :
  (tg < n∧err=15)∨(¬ tg < n∧16≤n∧err=9)∨(¬ tg < n∧n < 16∧err=0∧out=[⟨[],[],resC n,[]⟩]):=by
 by_cases ht:tg < n
 ·rcases h with ⟨h2,_⟩ | ⟨_,_,_,h2⟩ | ⟨_,N,rs,dp,h2,_⟩
  ·exact absurd (yR1 hn).1 h2
  ·exact .inl ⟨ht,h2⟩
  ·rw[cyc_rz hn h1 ht] at h2
   cases h2
 ·rw[cyP_ge (show n≤tg from by omega) (Nat.le_refl n)] at h
  have hk:=(List.all_eq_true.1 okC_all) n (List.mem_range.2 (by omega))
  unfold okC at hk
  cases hr:rzP (n+1) (cyP n n).files with
  | none=>rw[hr] at hk;cases hk
  | some r=>
    rw[hr] at hk
    simp only at hk
    rcases h with ⟨h2,_⟩ | ⟨_,h2,_⟩ | ⟨_,N,rs,dp,h2,h3⟩
    ·exact absurd (yR1 hn).1 h2
    ·rw[h2 (n+1)] at hr
     cases hr
    ·have e1:=yH8 (cyP n n).files N (max N (n+1)) _ (Nat.le_max_left _ _) h2
     have e2:=yH8 (cyP n n).files (n+1) (max N (n+1)) _ (Nat.le_max_right _ _) hr
     rw[e1] at e2
     injection e2 with e2
     subst e2
     by_cases h16:n < 16
     ·rw[if_pos h16] at hk
      obtain⟨dp2,h5⟩:=resC_at h16
      rw[hr] at h5
      injection h5 with h5
      injection h5 with h5 _
      subst h5
      simp only[Bool.and_eq_true,Bool.not_eq_true',List.all_eq_true,decide_eq_true_eq] at hk
      rcases h3 with ⟨h6,_⟩ | ⟨_,_,h7,h8⟩
      ·rcases h6 with h6 | ⟨f,hf,h6⟩
       ·rw[h6] at hk
        cases hk.1
       ·exact absurd (hk.2 f hf) h6
      ·exact .inr (.inr ⟨ht,h16,h8,h7⟩)
     ·rw[if_neg h16] at hk
      simp only[Bool.or_eq_true,List.any_eq_true,decide_eq_true_eq] at hk
      rcases h3 with ⟨_,_,h8⟩ | ⟨h6,h7,_⟩
      ·exact .inr (.inl ⟨ht,by omega,h8⟩)
      ·exfalso
       rcases hk with hk | ⟨f,hf,hk⟩
       ·rw[h6] at hk
        cases hk
       ·exact hk (h7 f hf)
def Leaf (x:EA):Prop:=(∃ t pos,x=nmE t pos∧t.length≤maxLen)∨∃ n,x=numE n
theorem Leaf.ok {x:EA}(h:Leaf x)(w:World)(B:Nat):OkA w B x:=by
 rcases h with ⟨t,pos,rfl,h⟩ | ⟨n,rfl⟩
 ·exact zQ8 h
 ·exact zP7
def LtOk (W:World)(d:DA):Prop:=∃ s A x,d=letD s A x∧s.length≤maxLen∧Leaf x∧SlN W W.heap.size 9 encE A [x]∧zM7 W 67 A
theorem LtOk.below {W W':World}{d:DA}(h:LtOk W d)(hb:Below W.heap.size W W'):LtOk W' d:=by
 obtain⟨s,A,x,rfl,h1,h2,h3,h4⟩:=h
 exact⟨s,A,x,rfl,h1,h2,slN_up hb h3,fun a ha=>by
  obtain⟨cs,hc⟩:=h4 a ha
  exact⟨cs,hc.keep hb⟩⟩
theorem LtOk.grown {W W':World}{d:DA}{base n:Nat}{v:Value}{xs:List Value}(h:LtOk W d)(ho:W.ownsRow base 71 11 v n xs)(hg:W.grownBy W' v.ownBlock):LtOk W' d:=by
 obtain⟨s,A,x,rfl,h1,h2,⟨h3,h3'⟩,h4⟩:=h
 rcases h3 with h3 | ⟨b,off,rfl,hb,hc⟩
 ·cases h3
 obtain⟨cs,hB⟩:=h4 _ rfl
 have hne:some b≠v.ownBlock:=fun e=>zS1 ho hB (by decide) b e.symm rfl
 exact⟨s,_,x,rfl,h1,h2,⟨.inr ⟨b,off,rfl,Nat.lt_of_lt_of_le hb hg.size,fun i hi j u hu=>hg.cell (hc i hi j u hu) hne⟩,h3'⟩,fun a ha=>by
  injection ha with ha
  subst ha
  exact⟨cs,hB.grown hg hne⟩⟩
structure CyR (base n tg k:Nat)(v:Value)(l:List DA)(W:World):Prop where
 row:W.ownsRow base 71 11 v k (l.flatMap encD)
 len:l.length=k
 pl:plDs l=(List.range k).map fun i=>letX (labC i) (xC n tg i)
 els:∀ d∈l,LtOk W d
theorem CyR.nil_ (base n tg:Nat)(W:World):CyR base n tg 0 (.slice none 0 0) [] W:=⟨World.ownsRow_nil _ _ _ _,rfl,rfl,fun _ h=>(by cases h)⟩
theorem CyR.below {base n tg k:Nat}{v:Value}{l:List DA}{W W':World}(h:CyR base n tg k v l W)(hb:Below W.heap.size W W'):CyR base n tg k v l W':=
 ⟨h.row.kept (row:=none) ⟨hb.os,hb.tape,hb.output,hb.size,fun k hk _=>hb.block k hk⟩ (by rcases hv:v.ownBlock with _ | _ <;> simp),h.len,h.pl,fun d hd=>(h.els d hd).below hb⟩
theorem CyR.snoc {base n tg k:Nat}{v v':Value}{l:List DA}{A:Option Addr}{x:EA}{W W':World}(h:CyR base n tg k v l W)(hd:LtOk W (letD (labC k) A x))(hx:plE x=xC n tg k)(ho:W'.ownsRow base 71 11 v' (k+1) (l.flatMap encD++encD (letD (labC k) A x)))(hg:W.grownBy W' v.ownBlock):CyR base n tg (k+1) v' (l++ [letD (labC k) A x]) W':=by
 refine⟨?_,by simp[h.len],?_,fun d hd'=>?_⟩
 ·have e:(l++ [letD (labC k) A x]).flatMap encD=l.flatMap encD++encD (letD (labC k) A x):=by simp
  rw[e]
  exact ho
 ·rw[zY7,List.map_append,←zY7,h.pl,List.range_succ,List.map_append]
  congr 1
  show [letX (labC k) (plE x)]=[letX (labC k) (xC n tg k)]
  rw[hx]
 ·rcases List.mem_append.1 hd' with h1 | h1
  ·exact(h.els d h1).grown h.row hg
  ·rw[List.mem_singleton.1 h1]
   exact hd.grown h.row hg
theorem CyR.sl {base n tg k:Nat}{v:Value}{l:List DA}{W:World}(h:CyR base n tg k v l W)(hk:k≤26):∃ A c,v=.slice A l.length c∧SlN W W.heap.size 11 encD A l∧OkAds W W.heap.size l:=by
 obtain⟨A,c,rfl⟩:=Acc.shape (.inl h.row)
 refine⟨A,c,by rw[h.len],⟨(zO1 zU9 (.inl h.row) (by decide)).2,by have:=h.len;omega⟩,?_⟩
 have h2:=h.els
 clear h
 induction l with
 | nil=>trivial
 | cons d l ih=>
   refine⟨?_,ih fun d hd=>h2 d (List.mem_cons_of_mem _ hd)⟩
   obtain⟨s,A,x,rfl,h3,h4,h5,_⟩:=h2 d (List.mem_cons_self ..)
   exact zE8 h3 h5 (h4.ok W _)
section
variable {P:Program}{w:World}
theorem zA6 {ops:Array Oper}{o:Oper}{a:Act}{K:Act→World→Prop}{Q:Exit→Act→World→Prop}{E:Prop}(hgd:o.guard=none)(s x:Operand)(t:TypeId)
  (ho:o.op=.call {callee:=.builtin .append,args:=#[s,x],argTypes:=#[t,t]})
  (base e size bytes:Nat)(hT:ElT P t e size bytes)(v:Value)(n:Nat)(xs:List Value)(hs:a.eval s=v)(hown:w.ownsRow base e size v n xs)
  (A:Option Addr)(m c:Nat)(news:List Value)(hx:a.eval x=.slice A m c)(hm:0 < m)(hsrc:Src w size A m news)(h1:∀ u∈news,u.oneCell'=true)
  (h63:n+m≤maxLen)(hbytes:(n+m)*bytes≤140737488355328)(hbase:base≤w.heap.size)
  (h:∀ v' w',w'.ownsRow base e size v' (n+m) (xs++news)→w.grownBy w' v.ownBlock→Below base w w'→K (a.put o.dst v') w') :
  if Region.wanted o (yielded ops a.tmps)=true then Oper.wp P o a w K Q else E:=by
 have hw:Region.wanted o (yielded ops a.tmps)=true:=by simp[Region.wanted,hgd]
 rw[if_pos hw]
 obtain⟨ht,hsz,i,z,hi,hz,hs',hby,hzs⟩:=hT
 obtain⟨ad,rfl,hc⟩:=hsrc.2 hm
 obtain⟨v',w',hr,h2,h3,h4,h5⟩:=run_append_own_at (P:=P) w base t o.type e i z size bytes ht hi hz hs' hby hzs hsz v n xs hown ad m c news hsrc.1 hc h1 h63 hbytes hbase
 unfold Oper.wp execOp
 simp only[ho,resolve,invoke,builtin,Sem.run_bind,Sem.run_pure,Result.andThen_ok,List.map_toArray,List.map_cons,List.map_nil,hs,hx,hr]
 exact h v' w' h2 h3 ((Below.refl _ _).grown h3 hbase (fun k hk=>(hown.lt k hk).1))
end
theorem pat_C (n tg:Nat):∀ l:List Nat,PatDs (RxOk rxT) (l.map fun i=>letX (labC i) (xC n tg i))
 | []=>by simp[PatDs]
 | i ::l=>by
   rw[List.map_cons,PatDs]
   refine⟨?_,pat_C n tg l⟩
   have hx:PatE (RxOk rxT) (xC n tg i):=by
    unfold xC
    split
    ·simp[zH5,PatE,PatEs,PatDs]
    ·split
     ·simp[zH5,PatE,PatEs,PatDs]
     ·simp[numX,PatE,PatEs,PatDs]
   simp[letX,PatD,PatEs,PatDs,hx]
def XAt (W:World)(n i:Nat)(A:Option Addr):Prop:=∃ e,SlN W W.heap.size 9 encE A [e]∧OkA W W.heap.size e∧plE e=chC n (n-i) (i-1)
theorem XAt.below {W W':World}{n i:Nat}{A:Option Addr}(h:XAt W n i A)(hb:Below W.heap.size W W'):XAt W' n i A:=by
 obtain⟨e,h1,h2,h3⟩:=h
 exact⟨e,slN_up hb h1,(zW9 hb.size).1 _ ((zX8 hb).1 _ h2),h3⟩
theorem zA7 {α:Type}{W:World}{B k:Nat}{enc:α→List Value}{A:Option Addr}{x:α}(h:SlN W B k enc A [x]):∃ b off,A=some ⟨b,off,none⟩∧b < B∧∀ j v,(enc x)[j]? = some v→W.cell? ⟨b,off+j,none⟩=some v:=by
 rcases h.1 with h | ⟨b,off,rfl,hb,hc⟩
 ·cases h
 ·exact⟨b,off,rfl,hb,fun j v hv=>by
   have:=hc 0 (by simp) j v hv
   simpa using this⟩
theorem zA8 {l:List EA}{x:E}(h:plEs l=[x]):∃ e,l=[e]∧plE e=x:=by
 match l,h with
 | [e],h=>exact⟨e,rfl,by rw[plEs,plEs] at h;injection h⟩
 | e ::f ::l,h=>rw[plEs,plEs] at h;injection h with _ h;cases h
theorem xat_step {W:World}{n i:Nat}{A:Option Addr}(h:XAt W n i A)(h1:1≤i)(hi:i < n) :
  ∃ b off A' c',A=some ⟨b,off,none⟩∧b < W.heap.size∧W.cell? ⟨b,off,none⟩=some (.int .i64 10)∧W.cell? ⟨b,off+1,none⟩=some (.string ⟨(labC i).toArray⟩)∧W.cell? ⟨b,off+2,none⟩=some (.int .i64 0)∧
    W.cell? ⟨b,off+3,none⟩=some (.string ⟨#[108,101,116]⟩)∧W.cell? ⟨b,off+5,none⟩=some (.slice A' 1 c')∧XAt W n (i+1) A':=by
 obtain⟨e,hs,hok,hp⟩:=h
 obtain⟨j,hj⟩:∃ j,n-i=j+1:=⟨n-i-1,by omega⟩
 obtain⟨i',rfl⟩:∃ i',i=i'+1:=⟨i-1,by omega⟩
 obtain⟨k,t,m,a,b,As,cs,subs,Ad,cd,decls,At,ct,tail,pos⟩:=e
 rw[hj,chC,plE] at hp
 injection hp with e1 e2 e3 e4 e5 e6 e7 e8 e9
 obtain⟨bb,off,rfl,hb,hc⟩:=zA7 hs
 obtain⟨e',rfl,he'⟩:=zA8 e6
 refine⟨bb,off,As,cs,rfl,hb,?_,?_,?_,?_,hc 5 _ rfl,e',hok.2.1,hok.2.2.1.1,?_⟩
 ·exact(hc 0 _ rfl).trans (by rw[e1])
 ·exact(hc 1 _ rfl).trans (by rw[e2];rfl)
 ·exact(hc 2 _ rfl).trans (by rw[e3])
 ·exact(hc 3 _ rfl).trans (by rw[e4];rfl)
 ·rw[he',show n-(i'+1+1)=j from by omega];rfl
theorem xat_end {W:World}{n:Nat}{A:Option Addr}(h:XAt W n n A):∃ b off As Ad At cs cd ct,A=some ⟨b,off,none⟩∧b < W.heap.size∧∀ j v,(encE (numA 10000 As Ad At cs cd ct))[j]? = some v→W.cell? ⟨b,off+j,none⟩=some v:=by
 obtain⟨e,hs,hok,hp⟩:=h
 obtain⟨k,t,m,a,b,As,cs,subs,Ad,cd,decls,At,ct,tail,pos⟩:=e
 rw[show n-n=0 from by omega,chC,plE] at hp
 injection hp with e1 e2 e3 e4 e5 e6 e7 e8 e9
 obtain⟨bb,off,rfl,hb,hc⟩:=zA7 hs
 have h6:subs=[]:=by
  rw[zX9] at e6
  simpa using e6
 have h7:decls=[]:=by
  rw[zY7] at e7
  simpa using e7
 subst h6 h7 e1 e2 e3 e4 e5 e8 e9
 exact⟨bb,off,As,Ad,At,cs,cd,ct,rfl,hb,hc⟩
theorem got_C {W:World}{n:Nat}{q:PA}(hok:OkP W W.heap.size q)(h1:1≤n)(h:(plP q).files=[⟨[],[],resC n,[]⟩]) :
  q.files.length=1∧∃ b off c bd od A c',q.A=some ⟨b,off,none⟩∧b < W.heap.size∧W.cell? ⟨b,off+2,none⟩=some (.slice (some ⟨bd,od,none⟩) n c)∧bd < W.heap.size∧W.cell? ⟨bd,od+5,none⟩=some (.slice A 1 c')∧XAt W n 1 A:=by
 obtain⟨path,qA,qc,files⟩:=q
 have h':files.map plF=[⟨[],[],resC n,[]⟩]:=h
 obtain⟨f,rfl⟩:∃ f,files=[f]:=by
  have hl:=congrArg List.length h'
  rw[List.length_map] at hl
  exact List.length_eq_one_iff.1 hl
 refine⟨rfl,?_⟩
 obtain⟨b,off,rfl,hb,hc⟩:=zA7 hok.files
 have hf:=hok.each f (by simp)
 have hd:plDs f.decls=resC n:=by
  injection h' with h' _
  injection h' with _ _ h' _
 have hlen:f.decls.length=n:=by
  have e:=congrArg List.length hd
  rw[zY7,List.length_map] at e
  rw[e,resC]
  simp
 obtain⟨n',rfl⟩:∃ n',n=n'+1:=⟨n-1,by omega⟩
 have h2:=hc 2 _ rfl
 rw[hlen] at h2
 have ho:=hf.decls
 have ht:=hf.trees
 generalize f.decls=dl at hd hlen ho ht
 obtain⟨d,l,rfl⟩:∃ d l,dl=d ::l:=by
  cases dl with
  | nil=>simp at hlen
  | cons d l=>exact⟨d,l,rfl⟩
 rw[plDs,resC,List.range_succ_eq_map,List.map_cons] at hd
 injection hd with hd _
 obtain⟨k,p,lb,a,b',As,cs,subs,Ab,cb,body,At,ct,tail,Al,cl,lead,trail,pos⟩:=d
 rw[plD] at hd
 unfold letX at hd
 injection hd with _ _ _ _ _ hd _ _ _ _ _
 obtain⟨e',rfl,he'⟩:=zA8 hd
 rcases ho.1 with ho | ⟨bd,od,hA,hbd,hcd⟩
 ·cases ho
 ·have h5:=hcd 0 (by simp) 5 _ rfl
  simp only[Nat.zero_mul,Nat.add_zero] at h5
  rw[hA] at h2
  exact⟨b,off,f.cd,bd,od,As,cs,rfl,hb,h2,hbd,h5,e',ht.1.2.1,ht.1.2.2.1.1,he'⟩
end Go.Proofs.YtdgehhgjgifikaaGreatDoor
