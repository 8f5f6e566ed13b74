/- What the claim needs of:QK QL. -/
import Derived.Test.YtdgehhgjgifikaaGreatDoorN42
import Derived.Test.YtdgehhgjgifikaaGreatDoorN43
namespace Go.Proofs.YtdgehhgjgifikaaGreatDoor
open Go.RowKit
def zM8 (n:Nat):Bool:=(xU6 n).all fun l=>decide (zS9 rxT (zA3 l true)=([zN9 l true],0))&&decide (zS9 rxT (zA3 l false)=([zN9 l false],0))&&decide (ndFs (zA3 l true).files≤1000)&&decide (ndFs (zA3 l false).files≤1000)
theorem nestK1:zM8 1=true:=by decide +kernel
theorem nestK2:zM8 2=true:=by decide +kernel
theorem nestK3:zM8 3=true:=by decide +kernel
theorem nestK4:zM8 4=true:=by decide +kernel
theorem nestK5:zM8 5=true:=by decide +kernel
theorem nestK6:zM8 6=true:=by decide +kernel
theorem nestK7:zM8 7=true:=by decide +kernel
theorem xU9 (l:List Bool)(imp:Bool)(h1:1≤l.length)(h7:l.length≤7):zS9 rxT (zA3 l imp)=([zN9 l imp],0)∧ndFs (zA3 l imp).files≤1048576:=by
 have h:zM8 l.length=true:=by
  generalize l.length=n at h1 h7
  match n,h1,h7 with
  | 1,_,_=>exact nestK1
  | 2,_,_=>exact nestK2
  | 3,_,_=>exact nestK3
  | 4,_,_=>exact nestK4
  | 5,_,_=>exact nestK5
  | 6,_,_=>exact nestK6
  | 7,_,_=>exact nestK7
 have:=List.all_eq_true.1 h l (yN7 l)
 simp only[Bool.and_eq_true,decide_eq_true_eq] at this
 obtain⟨⟨⟨h2,h3⟩,h4⟩,h5⟩:=this
 cases imp
 ·exact⟨h3,by omega⟩
 ·exact⟨h2,by omega⟩
def yN9 (m last:Bool)(l:List D):List D:=if last then(if m then l++ [zS3 [120] (numX 1)] else l) else[zS3 [122] (zA2 (if m then l++ [zS3 [120] (numX 1)] else l))]
theorem zO5 (m:Bool)(r:List Bool)(l:List D):zN6 (m ::r) l=zN6 r (yN9 m (decide (r=[])) l):=by
 unfold yN9
 cases r with
 | nil=>rw[zN6];simp[zN6]
 | cons b r=>rw[zN6];simp
theorem xT0 {R:Tx→Prop}{m last:Bool}{l:List D}(h:PatDs R l):PatDs R (yN9 m last l):=by
 have hx:PatDs R (if m then l++ [zS3 [120] (numX 1)] else l):=by
  cases m
  ·exact h
  ·show PatDs R (l++ [zS3 [120] (numX 1)])
   induction l with
   | nil=>simp[zS3,numX,PatDs,PatD,PatEs,PatE]
   | cons d l ih=>exact⟨h.1,ih h.2⟩
 unfold yN9
 cases last
 ·simp only[Bool.false_eq_true,if_false]
  rw[PatDs,PatDs]
  refine⟨?_,trivial⟩
  unfold zS3 zA2
  rw[PatD,PatEs,PatEs,PatDs,PatE,PatEs]
  exact⟨fun h=>absurd h (by decide),⟨⟨trivial,hx⟩,trivial⟩,trivial⟩
 ·exact hx
theorem yM0 {R:Tx→Prop}:∀ (bits:List Bool){l:List D},PatDs R l→PatDs R (zN6 bits l)
 | [],_,h=>h
 | m ::r,l,h=>by
   rw[zO5]
   exact yM0 r (xT0 h)
def zY6 (mask:Nat):Nat→List Bool
 | 0=>[]
 | n+1=>mask.testBit n ::zY6 mask n
theorem zQ1 (mask:Nat):∀ n,(zY6 mask n).length=n
 | 0=>rfl
 | n+1=>by rw[zY6,List.length_cons,zQ1 mask n]
open Go.Sort
mutual
def noE:EA→Prop
 | .mk _ _ _ _ _ _ _ subs _ _ decls _ _ tail _=>tail=[]∧noEs subs∧noDs decls
def noEs:List EA→Prop
 | []=>True
 | x ::l=>noE x∧noEs l
def noD:DA→Prop
 | .mk _ _ _ _ _ _ _ subs _ _ body _ _ tail _ _ lead _ _=>tail=[]∧lead=[]∧noEs subs∧noDs body
def noDs:List DA→Prop
 | []=>True
 | x ::l=>noD x∧noDs l
end
theorem sl_big {α:Type}{w w':World}{B k g:Nat}{ty:TypeId}{cs:Array Value}{enc:α→List Value}{A:Option Addr}{l:List α}(h:Sl w B k enc A l)(hk:∀ x,(enc x).length=k)(hg:Blk w g ty cs)(hs:cs.size < k)(hkp:Kp (· = g) w w')(hB:B≤w.heap.size):Sl w' B k enc A l:=by
 rcases h with h | ⟨b,off,rfl,hb,hc⟩
 ·exact .inl h
 ·refine .inr ⟨b,off,rfl,hb,fun i hi j v hv=>?_⟩
  by_cases e:b=g
  ·exfalso
   subst e
   have hlt:k-1 < (enc l[i]).length:=by rw[hk];omega
   have h1:=hc i hi (k-1) _ (List.getElem?_eq_getElem hlt)
   rw[hg.cell] at h1
   have h2:=(Array.getElem?_eq_some_iff.1 h1).1
   omega
  ·exact hkp.cell (p:=⟨b,off+i*k+j,none⟩) (Nat.lt_of_lt_of_le hb hB) e▸hc i hi j v hv
theorem zA4 {α:Type}{w w':World}{B k g:Nat}{ty:TypeId}{cs:Array Value}{enc:α→List Value}{A:Option Addr}{l:List α}(h:SlN w B k enc A l)(hk:∀ x,(enc x).length=k)(hg:Blk w g ty cs)(hs:cs.size < k)(hkp:Kp (· = g) w w')(hB:B≤w.heap.size):SlN w' B k enc A l:=⟨sl_big h.1 hk hg hs hkp hB,h.2⟩
theorem okA_big {w w':World}{B g:Nat}{ty:TypeId}{cs:Array Value}(hg:Blk w g ty cs)(hs:cs.size < 9)(hkp:Kp (· = g) w w')(hB:B≤w.heap.size) :
  (∀ e,OkA w B e→noE e→OkA w' B e)∧(∀ d,OkAd w B d→noD d→OkAd w' B d)∧(∀ l,OkAs w B l→noEs l→OkAs w' B l)∧∀ l,OkAds w B l→noDs l→OkAds w' B l:=
 zX4 (fun k t m a b As cs subs Ad cd decls At ct tail pos h1 h2 h n=>by
   obtain⟨rfl,n1,n2⟩:=n
   exact⟨h.1,zA4 h.2.1 zP0 hg hs hkp hB,h1 h.2.2.1 n1,zA4 h.2.2.2.1 zU9 hg (by omega) hkp hB,h2 h.2.2.2.2.1 n2,⟨.inl rfl,Nat.zero_le _⟩⟩)
  (fun k p l a b As cs subs Ab cb body At ct tail Al cl lead tr pos h1 h2 h n=>by
   obtain⟨rfl,rfl,n1,n2⟩:=n
   exact⟨h.1,zA4 h.2.1 zP0 hg hs hkp hB,h1 h.2.2.1 n1,zA4 h.2.2.2.1 zU9 hg (by omega) hkp hB,h2 h.2.2.2.2.1 n2,⟨.inl rfl,Nat.zero_le _⟩,⟨.inl rfl,Nat.zero_le _⟩⟩)
  (fun _ _=>trivial) (fun _ _ h1 h2 h n=>⟨h1 h.1 n.1,h2 h.2 n.2⟩) (fun _ _=>trivial) (fun _ _ h1 h2 h n=>⟨h1 h.1 n.1,h2 h.2 n.2⟩)
theorem zS4 (mask:Nat):∀ (n k d:Nat),k+d+1=n→(zY6 mask n).drop k=mask.testBit d ::zY6 mask d
 | n+1,0,d,h=>by
   obtain rfl:d=n:=by omega
   rfl
 | n+1,k+1,d,h=>by
   rw[zY6,List.drop_succ_cons]
   exact zS4 mask n k d (by omega)
structure NsL (A:Option Addr)(l:List DA)(W:World):Prop where
 sl:SlN W W.heap.size 11 encD A l
 ok:OkAds W W.heap.size l
 no:noDs l
theorem NsL.below {A:Option Addr}{l:List DA}{W W':World}(h:NsL A l W)(hb:Below W.heap.size W W'):NsL A l W':=⟨(h.sl.below hb).more hb.size,zE7 hb h.ok,h.no⟩
theorem NsL.write {A:Option Addr}{l:List DA}{W W':World}{g:Nat}{ty:TypeId}{cs:Array Value}(h:NsL A l W)(hg:Blk W g ty cs)(hs:cs.size < 9)(hk:Kp (· = g) W W'):NsL A l W':=
 ⟨(zA4 h.sl zU9 hg (by omega) hk (Nat.le_refl _)).more hk.size,(zW9 hk.size).2.2.2 _ ((okA_big hg hs hk (Nat.le_refl _)).2.2.2 _ h.ok h.no),h.no⟩
def Lit (W:World)(v:Value)(n:Nat)(xs:List Value):Prop:=xs.length=n*11∧∃ g off,v=.slice (some ⟨g,off,none⟩) n n∧g < W.heap.size∧∀ j u,xs[j]? = some u→W.cell? ⟨g,off+j,none⟩=some u
theorem Lit.below {W W':World}{v:Value}{n:Nat}{xs:List Value}(h:Lit W v n xs)(hb:Below W.heap.size W W'):Lit W' v n xs:=by
 obtain⟨h1,g,off,h2,h3,h4⟩:=h
 exact⟨h1,g,off,h2,Nat.lt_of_lt_of_le h3 hb.size,fun j u hu=>zZ4 hb h3 (h4 j u hu)⟩
theorem yK7 {W:World}{g:Nat}{cs:Array Value}{l:List DA}(h:Blk W g 71 cs)(e:cs.toList=l.flatMap encD):Lit W (.slice (some ⟨g,0,none⟩) l.length l.length) l.length (l.flatMap encD):=
 ⟨zL0 zU9 l,g,0,rfl,h.lt,fun j u hu=>by
  rw[Nat.zero_add,h.cell j]
  rw[←e] at hu
  simpa using hu⟩
theorem and_i64:∀ x:Fin 256,(bits .and .i64 ((x.val:Nat):Int) 1 == 1)=decide (x.val % 2=1):=by decide +kernel
theorem and_u8:∀ x:Fin 256,(bits .and .u8 ((x.val:Nat):Int) 1 == 1)=decide (x.val % 2=1):=by decide +kernel
theorem xT1 (mask d:Nat):((mask:Nat):Int) / 2 ^ d=((mask / 2 ^ d:Nat):Int):=by
 have e:((2:Int) ^ d)=((2 ^ d:Nat):Int):=by simp
 rw[e]
 rfl
theorem bit_i64 (mask d:Nat)(hm:mask < 256):(bits .and .i64 (((mask:Nat):Int) / 2 ^ d) 1 == 1)=mask.testBit d:=by
 rw[xT1,Nat.testBit_eq_decide_div_mod_eq]
 exact and_i64 ⟨mask / 2 ^ d,Nat.lt_of_le_of_lt (Nat.div_le_self _ _) hm⟩
theorem bit_u8 (mask d:Nat)(hm:mask < 256):(bits .and .u8 (((mask:Nat):Int) / 2 ^ d) 1 == 1)=mask.testBit d:=by
 rw[xT1,Nat.testBit_eq_decide_div_mod_eq]
 exact and_u8 ⟨mask / 2 ^ d,Nat.lt_of_le_of_lt (Nat.div_le_self _ _) hm⟩
theorem NsL.snoc {A A':Option Addr}{l:List DA}{d:DA}{c' b:Nat}{W W':World}(h:NsL A l W)(hb:Below W.heap.size W W')(hac:Acc W' b 71 11 (.slice A' (l.length+1) c') (l.length+1) (l.flatMap encD++encD d))(hl:l.length≤1000)(hd:OkAd W' W'.heap.size d)(hn:noD d):NsL A' (l++ [d]) W':=by
 have e:(l++ [d]).flatMap encD=l.flatMap encD++encD d:=by simp
 have e2:(l++ [d]).length=l.length+1:=by simp
 have h1:=(zO1 (l:=l++ [d]) zU9 (by rw[e];exact hac) (by decide)).2
 have hD:∀ (m:List DA),OkAds W' W'.heap.size m→OkAds W' W'.heap.size (m++ [d]):=fun m hm=>by
  induction m with
  | nil=>exact⟨hd,trivial⟩
  | cons x m ih=>exact⟨hm.1,ih hm.2⟩
 have hN:∀ (m:List DA),noDs m→noDs (m++ [d]):=fun m hm=>by
  induction m with
  | nil=>exact⟨hn,trivial⟩
  | cons x m ih=>exact⟨hm.1,ih hm.2⟩
 exact⟨⟨h1,by rw[e2];omega⟩,hD l (zE7 hb h.ok),hN l h.no⟩
theorem yM1 (l:List DA)(d:DA):plDs (l++ [d])=plDs l++ [plD d]:=by rw[zY7,zY7,List.map_append];rfl
set_option maxRecDepth 100000 in
set_option maxHeartbeats 16000000 in
theorem xT2 (n mask:Nat)(imp:Bool)(h1:1≤n)(h7:n≤7)(hm:mask < 256)(w:World):Calls Tryz.prog 31 #[.int .i64 (n:Nat),.int .i64 (mask:Nat),.bool imp] w fun e w'=>
  ∃ A' q,e=.returned (.agg #[.string ⟨#[]⟩,.slice A' 1 1])∧OkP w' w'.heap.size ⟨[],A',1,[q]⟩∧plP ⟨[],A',1,[q]⟩=zA3 (zY6 mask n) imp∧Below w.heap.size w w':=by
 have hb1:=(Below.refl w.heap.size w).alloc (Nat.le_refl _) (.cells #[.string ⟨#[]⟩,.slice none 0 0] 24)
 have HB1:=Lib.hid hb1
 have HR1:=Lib.hid (Blk.new w 24 #[.string ⟨#[]⟩,.slice none 0 0])
 clear hb1
 go_enter Tryz.func31,Tryz.ntmps31
 go_upto_region 1 with fail
 generalize w.alloc (.cells #[.string ⟨#[]⟩,.slice none 0 0] 24)=w1 at HB1 HR1 ⊢
 go_wp2_with fail
 refine(zK5 [120] 5 w1).mono ?_
 rintro e w2 ⟨rfl,hb⟩
 have HB2:=Lib.hid hb
 clear hb
 go_wp2_with fail
 refine(yZ1 [121] (nmE [120] 5) w2 (by decide) (zQ8 (by decide))).mono ?_
 rintro e w3 ⟨Aa,rfl,hS,hb⟩
 have HB3:=Lib.hid (HB2.out.trans (hb.mono HB2.out.size))
 have hb4:=(Below.refl w3.heap.size w3).alloc (Nat.le_refl _) (.cells #[.int .i64 1,.int .i64 1,.string ⟨#[121]⟩,.string ⟨#[]⟩,.string ⟨#[]⟩,.slice Aa 1 1,.slice none 0 0,.slice none 0 0,.slice none 0 0,.string ⟨#[]⟩,.int .i64 0] 71)
 have HB4:=Lib.hid (HB3.out.trans (hb4.mono HB3.out.size))
 have HX:=Lib.hid (Blk.new w3 71 #[.int .i64 1,.int .i64 1,.string ⟨#[121]⟩,.string ⟨#[]⟩,.string ⟨#[]⟩,.slice Aa 1 1,.slice none 0 0,.slice none 0 0,.slice none 0 0,.string ⟨#[]⟩,.int .i64 0])
 have HN:=Lib.hid (show NsL (some ⟨w3.heap.size,0,none⟩) [fldD [121] Aa (nmE [120] 5)] (w3.alloc (.cells #[.int .i64 1,.int .i64 1,.string ⟨#[121]⟩,.string ⟨#[]⟩,.string ⟨#[]⟩,.slice Aa 1 1,.slice none 0 0,.slice none 0 0,.slice none 0 0,.string ⟨#[]⟩,.int .i64 0] 71)) from⟨yS7 (Blk.new w3 _ _) rfl (by simp),⟨zT0 (by decide) (hS.below hb4).1 (zQ8 (by decide)),trivial⟩,by simp[fldD,nmE,noDs,noD,noEs,noE]⟩)
 have HA:=Lib.hid (yK7 (l:=[fldD [121] Aa (nmE [120] 5)]) HX.out rfl)
 clear hb hb4 hS
 go_upto_region 3 with fail
 generalize w3.alloc (.cells #[.int .i64 1,.int .i64 1,.string ⟨#[121]⟩,.string ⟨#[]⟩,.string ⟨#[]⟩,.slice Aa 1 1,.slice none 0 0,.slice none 0 0,.slice none 0 0,.string ⟨#[]⟩,.int .i64 0] 71)=w4 at HB4 HX HN HA ⊢
 clear HB2 HB3 HX
 go_loopw [7,8] (fun lv dv wq=>∃ (k:Nat) (A:Option Addr) (l:List DA) (c:Nat),k≤n∧dv=.int .i64 ((n:Nat)-1-(k:Nat))∧lv=.slice A l.length c∧l.length≤4∧Hid (Below w1.heap.size w1 wq)∧Hid (NsL A l wq)∧Hid (zN6 ((zY6 mask n).drop k) (plDs l)=zN6 (zY6 mask n) [zS3 [121] (zH5 [120] 5)])∧Hid (k < n→l.length=1∧Lit wq (.slice A l.length c) l.length (l.flatMap encD))) (fun _ dv _=>(intOf dv+1).toNat)
 case atStart=>exact⟨0,_,_,_,Nat.zero_le _,by go_num,rfl,by simp,HB4,HN,Lib.hid rfl,Lib.hid fun _=>⟨rfl,HA.out⟩⟩
 case round=>
  clear HB4 HN HA
  obtain⟨k,A,l,c,hk,rfl,rfl,hl2,Bi,Ni,Di,Ai⟩:=hrel
  by_cases hlt:k < n
  ·obtain⟨d,hd⟩:∃ d,k+d+1=n:=⟨n-1-k,by omega⟩
   have hdv:((n:Nat):Int)-1-(k:Nat)=(d:Nat):=by omega
   rw[hdv]
   have hd6:d≤6:=by omega
   have hd0:(0:Int)≤(d:Nat):=by omega
   have hbit:=bit_i64 mask d hm
   cases hbt:mask.testBit d with
   | true=>
     rw[hbt] at hbit
     go_wp2_with fail
     refine(yC8 1 (by decide) wr).mono ?_
     rintro e wa ⟨rfl,hb⟩
     have HBa:=Lib.hid hb
     go_wp2_with fail
     refine(yZ1 [120] (numE 10000) wa (by decide) zP7).mono ?_
     rintro e wb ⟨Ax,rfl,hS,hb⟩
     have HBb:=Lib.hid (HBa.out.trans (hb.mono HBa.out.size))
     have HS:=Lib.hid hS
     have hbl:=(Below.refl wb.heap.size wb).alloc (Nat.le_refl _) (.cells #[.int .i64 1,.int .i64 1,.string ⟨#[120]⟩,.string ⟨#[]⟩,.string ⟨#[]⟩,.slice Ax 1 1,.slice none 0 0,.slice none 0 0,.slice none 0 0,.string ⟨#[]⟩,.int .i64 0] 71)
     have HBc:=Lib.hid (HBb.out.trans (hbl.mono HBb.out.size))
     have HLt:=Lib.hid (show Lit (wb.alloc (.cells #[.int .i64 1,.int .i64 1,.string ⟨#[120]⟩,.string ⟨#[]⟩,.string ⟨#[]⟩,.slice Ax 1 1,.slice none 0 0,.slice none 0 0,.slice none 0 0,.string ⟨#[]⟩,.int .i64 0] 71)) (.slice A l.length c) l.length (l.flatMap encD) from(Ai.out hlt).2.below HBc.out)
     have HSc:=Lib.hid (HS.out.below hbl)
     clear hb hS hbl
     go_upto_region 7 with (at_builtin;refine zU1 _ rfl (.tmp 24) (.tmp 27) 56 rfl (wb.alloc (.cells #[.int .i64 1,.int .i64 1,.string ⟨#[120]⟩,.string ⟨#[]⟩,.string ⟨#[]⟩,.slice Ax 1 1,.slice none 0 0,.slice none 0 0,.slice none 0 0,.string ⟨#[]⟩,.int .i64 0] 71)).heap.size 71 11 184 yP0 _ _ _ rfl (.inr HLt.out) _ 1 _ _ rfl (Src.lit _ 11 _ _ 1 rfl) (by simp[Value.oneCell']) (by simp only[maxLen];omega) (by omega) (Nat.le_refl _) ?_;intro v' wd hacc' _ hbd _ _;obtain⟨Ad,cd,hvd⟩:=hacc'.shape;subst hvd;have HQa:=Lib.hid hacc';have HQb:=Lib.hid hbd)
     have HBd:=Lib.hid (HBc.out.trans (HQb.out.mono HBc.out.size))
     have HNd:=Lib.hid (show NsL Ad (l++ [fldD [120] Ax (numE 10000)]) wd from Ni.out.snoc HBd.out HQa.out (by omega) (zT0 (by decide) (HSc.out.below HQb.out).1 zP7) ⟨rfl,rfl,⟨⟨rfl,trivial,trivial⟩,trivial⟩,trivial⟩)
     have HBe:=Lib.hid (Bi.out.trans (HBd.out.mono Bi.out.size))
     clear HQa HQb HBa HBb HBc HLt HSc HS HBd
     obtain⟨l',hl'⟩:∃ l',l++ [fldD [120] Ax (numE 10000)]=l':=⟨_,rfl⟩
     have hlen:l.length+1=l'.length:=by rw[←hl'];simp
     rw[hl'] at HNd
     rw[hlen]
     have HLe:=Lib.hid hl'
     have hl3:l'.length≤4:=by have:=(Ai.out hlt).1;omega
     clear hlen hl'
     by_cases hdp:0 < d
     ·have hq:(0:Int) < (d:Nat):=by omega
      go_wp2_with fail
      refine(yZ1 [122] (zH4 Ad cd (l')) wd (by decide) (zF2 HNd.out.sl HNd.out.ok)).mono ?_
      rintro e wz ⟨Az,rfl,hS,hb⟩
      have hb9:=(Below.refl wz.heap.size wz).alloc (Nat.le_refl _) (.cells #[.int .i64 1,.int .i64 1,.string ⟨#[122]⟩,.string ⟨#[]⟩,.string ⟨#[]⟩,.slice Az 1 1,.slice none 0 0,.slice none 0 0,.slice none 0 0,.string ⟨#[]⟩,.int .i64 0] 71)
      have HX9:=Lib.hid (Blk.new wz 71 #[.int .i64 1,.int .i64 1,.string ⟨#[122]⟩,.string ⟨#[]⟩,.string ⟨#[]⟩,.slice Az 1 1,.slice none 0 0,.slice none 0 0,.slice none 0 0,.string ⟨#[]⟩,.int .i64 0])
      have HN9:=Lib.hid (show NsL (some ⟨wz.heap.size,0,none⟩) [fldD [122] Az (zH4 Ad cd (l'))] (wz.alloc (.cells #[.int .i64 1,.int .i64 1,.string ⟨#[122]⟩,.string ⟨#[]⟩,.string ⟨#[]⟩,.slice Az 1 1,.slice none 0 0,.slice none 0 0,.slice none 0 0,.string ⟨#[]⟩,.int .i64 0] 71)) from⟨yS7 HX9.out rfl (by simp),⟨zT0 (by decide) (hS.below hb9).1 (zF2 ((HNd.out.below hb).below hb9).sl ((HNd.out.below hb).below hb9).ok),trivial⟩,⟨⟨rfl,rfl,⟨⟨rfl,trivial,HNd.out.no⟩,trivial⟩,trivial⟩,trivial⟩⟩)
      have HA9:=Lib.hid (yK7 (l:=[fldD [122] Az (zH4 Ad cd (l'))]) HX9.out rfl)
      have HB9:=Lib.hid ((HBe.out.trans (hb.mono HBe.out.size)).trans (hb9.mono (Nat.le_trans HBe.out.size hb.size)))
      clear hb hb9 hS
      have HDn:=Lib.hid (show zN6 ((zY6 mask n).drop (k+1)) (plDs ([fldD [122] Az (zH4 Ad cd (l'))]))=zN6 (zY6 mask n) [zS3 [121] (zH5 [120] 5)] from by
       have h:=Di.out
       rw[zS4 mask n k d hd,zO5] at h
       have e:(zY6 mask n).drop (k+1)=zY6 mask d:=by rw[←List.tail_drop,zS4 mask n k d hd];rfl
       rw[e,←h,hbt]
       congr 1
       unfold yN9
       obtain⟨d1,rfl⟩:∃ d1,d=d1+1:=⟨d-1,by omega⟩
       simp only[zY6,reduceCtorEq,decide_false,Bool.false_eq_true,if_false]
       show [zS3 [122] (zA2 (plDs (l')))]=_
       rw[←HLe.out,yM1]
       rfl)
      go_wp2
      go_roundw
      case rel=>exact⟨k+1,_,[fldD [122] Az (zH4 Ad cd (l'))],1,by omega,by go_num,rfl,by simp,HB9,HN9,HDn,Lib.hid fun _=>⟨rfl,HA9.out⟩⟩
      case measure=>(simp[intOf];try omega)
     ·have hq:¬ (0:Int) < (d:Nat):=by omega
      have hd0q:d=0:=by omega
      have HDn:=Lib.hid (show zN6 ((zY6 mask n).drop (k+1)) (plDs (l'))=zN6 (zY6 mask n) [zS3 [121] (zH5 [120] 5)] from by
       have h:=Di.out
       rw[zS4 mask n k d hd,zO5] at h
       have e:(zY6 mask n).drop (k+1)=zY6 mask d:=by rw[←List.tail_drop,zS4 mask n k d hd];rfl
       rw[e,←h,hbt]
       congr 1
       unfold yN9
       rw[hd0q]
       simp only[zY6,decide_true,if_true]
       rw[←HLe.out,yM1]
       rfl)
      go_wp2
      go_roundw
      case rel=>exact⟨k+1,Ad,l',cd,by omega,by go_num,rfl,by omega,HBe,HNd,HDn,Lib.hid fun h=>by omega⟩
      case measure=>(simp[intOf];try omega)
   | false=>
     rw[hbt] at hbit
     go_upto_region 7 with fail
     by_cases hdp:0 < d
     ·have hq:(0:Int) < (d:Nat):=by omega
      go_wp2_with fail
      refine(yZ1 [122] (zH4 A c (l)) wr (by decide) (zF2 Ni.out.sl Ni.out.ok)).mono ?_
      rintro e wz ⟨Az,rfl,hS,hb⟩
      have hb9:=(Below.refl wz.heap.size wz).alloc (Nat.le_refl _) (.cells #[.int .i64 1,.int .i64 1,.string ⟨#[122]⟩,.string ⟨#[]⟩,.string ⟨#[]⟩,.slice Az 1 1,.slice none 0 0,.slice none 0 0,.slice none 0 0,.string ⟨#[]⟩,.int .i64 0] 71)
      have HX9:=Lib.hid (Blk.new wz 71 #[.int .i64 1,.int .i64 1,.string ⟨#[122]⟩,.string ⟨#[]⟩,.string ⟨#[]⟩,.slice Az 1 1,.slice none 0 0,.slice none 0 0,.slice none 0 0,.string ⟨#[]⟩,.int .i64 0])
      have HN9:=Lib.hid (show NsL (some ⟨wz.heap.size,0,none⟩) [fldD [122] Az (zH4 A c (l))] (wz.alloc (.cells #[.int .i64 1,.int .i64 1,.string ⟨#[122]⟩,.string ⟨#[]⟩,.string ⟨#[]⟩,.slice Az 1 1,.slice none 0 0,.slice none 0 0,.slice none 0 0,.string ⟨#[]⟩,.int .i64 0] 71)) from⟨yS7 HX9.out rfl (by simp),⟨zT0 (by decide) (hS.below hb9).1 (zF2 ((Ni.out.below hb).below hb9).sl ((Ni.out.below hb).below hb9).ok),trivial⟩,⟨⟨rfl,rfl,⟨⟨rfl,trivial,Ni.out.no⟩,trivial⟩,trivial⟩,trivial⟩⟩)
      have HA9:=Lib.hid (yK7 (l:=[fldD [122] Az (zH4 A c (l))]) HX9.out rfl)
      have HB9:=Lib.hid ((Bi.out.trans (hb.mono Bi.out.size)).trans (hb9.mono (Nat.le_trans Bi.out.size hb.size)))
      clear hb hb9 hS
      have HDn:=Lib.hid (show zN6 ((zY6 mask n).drop (k+1)) (plDs ([fldD [122] Az (zH4 A c (l))]))=zN6 (zY6 mask n) [zS3 [121] (zH5 [120] 5)] from by
       have h:=Di.out
       rw[zS4 mask n k d hd,zO5] at h
       have e:(zY6 mask n).drop (k+1)=zY6 mask d:=by rw[←List.tail_drop,zS4 mask n k d hd];rfl
       rw[e,←h,hbt]
       congr 1
       unfold yN9
       obtain⟨d1,rfl⟩:∃ d1,d=d1+1:=⟨d-1,by omega⟩
       simp only[zY6,reduceCtorEq,decide_false,Bool.false_eq_true,if_false]
       show [zS3 [122] (zA2 (plDs (l)))]=_
       rfl)
      go_wp2
      go_roundw
      case rel=>exact⟨k+1,_,[fldD [122] Az (zH4 A c (l))],1,by omega,by go_num,rfl,by simp,HB9,HN9,HDn,Lib.hid fun _=>⟨rfl,HA9.out⟩⟩
      case measure=>(simp[intOf];try omega)
     ·have hq:¬ (0:Int) < (d:Nat):=by omega
      have hd0q:d=0:=by omega
      have HDn:=Lib.hid (show zN6 ((zY6 mask n).drop (k+1)) (plDs (l))=zN6 (zY6 mask n) [zS3 [121] (zH5 [120] 5)] from by
       have h:=Di.out
       rw[zS4 mask n k d hd,zO5] at h
       have e:(zY6 mask n).drop (k+1)=zY6 mask d:=by rw[←List.tail_drop,zS4 mask n k d hd];rfl
       rw[e,←h,hbt]
       congr 1
       unfold yN9
       rw[hd0q]
       simp only[zY6,decide_true,if_true]
       rfl)
      go_wp2
      go_roundw
      case rel=>exact⟨k+1,A,l,c,by omega,by go_num,rfl,by omega,Bi,Ni,HDn,Lib.hid fun h=>by omega⟩
      case measure=>(simp[intOf];try omega)
  ·obtain rfl:k=n:=by omega
   have hdv:((k:Nat):Int)-1-(k:Nat)= -1:=by omega
   rw[hdv]
   have hD:=Di.out
   have he:(zY6 mask k).drop k=[]:=List.drop_eq_nil_of_le (by rw[zQ1];exact Nat.le_refl _)
   rw[he] at hD
   have HD:=Lib.hid (show plDs l=zN6 (zY6 mask k) [zS3 [121] (zH5 [120] 5)] from hD)
   clear hD he Di Ai hlt hdv
   go_wp2_with fail
   refine(yS8 A c l wr Ni.out.sl Ni.out.ok).mono ?_
   rintro e w5 ⟨A',rfl,_,⟨g,rfl,hg,hG⟩,hb⟩
   have HB5:=Lib.hid (Bi.out.trans (hb.mono Bi.out.size))
   have HN5:=Lib.hid (Ni.out.below hb)
   have hb6:=(Below.refl w5.heap.size w5).alloc (Nat.le_refl _) (.cells #[.string ⟨#[]⟩,.slice (some ⟨g,0,none⟩) 1 1] 24)
   have HL:=Lib.hid (HB5.out.trans (hb6.mono HB5.out.size))
   have HNs:=Lib.hid (HN5.out.below hb6)
   have HG:=Lib.hid (hG.keep hb6)
   have HBx:=Lib.hid (Blk.new w5 24 #[.string ⟨#[]⟩,.slice (some ⟨g,0,none⟩) 1 1])
   have HGt:=Lib.hid (show g < w5.heap.size from hG.lt)
   have HGe:=Lib.hid (show w1.heap.size≤g from Nat.le_trans Bi.out.size hg)
   clear hb hb6 hg hG HB5 HN5 Bi Ni
   go_upto_region 10 with fail
   generalize w5.alloc (.cells #[.string ⟨#[]⟩,.slice (some ⟨g,0,none⟩) 1 1] 24)=w6 at HL HNs HG HBx ⊢
   cases imp with
   | false=>
     have HT:=Lib.hid (HR1.out.keep HL.out)
     have y0:=(zU4 HT.out).1
     have y1:=(zU4 HT.out).2
     have zf0:=HT.out.free 0
     have zf1:=HT.out.free 1
     have b0:=(zU4 HBx.out).1
     have b1:=(zU4 HBx.out).2
     go_wp2
     clear y0 y1 zf0 zf1 b0 b1
     obtain⟨hB8,hK8⟩:=res2 HT.out (.string ⟨#[]⟩) (.slice (some ⟨g,0,none⟩) 1 1)
     have HR:=Lib.hid (show ∃ A' q,Ending.returned (.agg #[.string ⟨#[]⟩,.slice (some ⟨g,0,none⟩) 1 1])=.returned (.agg #[.string ⟨#[]⟩,.slice A' 1 1])∧OkP _ _ ⟨[],A',1,[q]⟩∧plP ⟨[],A',1,[q]⟩=zA3 (zY6 mask k) false∧Below w.heap.size w _ from by
      have hz:=HB1.out.size
      have hgt:g≠w.heap.size:=fun e=>zS7 HG.out HT.out (by decide) e
      have hG8:=hK8.blk HG.out hgt
      have hN8:=HNs.out.write HT.out (by decide) hK8
      have hb8:Below w.heap.size w _:=(HB1.out.trans (HL.out.mono hz)).trans (hK8.toBelow (Nat.le_trans hz HL.out.size) fun b hb e=>by omega)
      refine⟨_,⟨[],none,0,[],A,c,l,none,0,[]⟩,rfl,⟨Nat.zero_le _,⟨hG8.sl zI1 [⟨[],none,0,[],A,c,l,none,0,[]⟩] rfl,by simp⟩,fun f hf=>?_⟩,?_,hb8⟩
      ·rw[List.mem_singleton.1 hf]
       exact okF_of hN8.sl hN8.ok
      ·show (⟨[],[⟨[],[],plDs l,[]⟩]⟩:Pk)=_
       rw[HD.out]
       rfl)
     obtain⟨z0,z1⟩:=zU4 hB8
     refine bodyPost_ret (v:=.agg #[.string ⟨#[]⟩,.slice (some ⟨g,0,none⟩) 1 1]) ?_ rfl HR.out
     simp[results,Tryz.results31,go_sem,z0,z1]
   | true=>
     have hb7:=(Below.refl w6.heap.size w6).alloc (Nat.le_refl _) (.cells #[.string ⟨#[120]⟩,.string ⟨#[109]⟩,.int .i64 0] 60)
     have b1:=(zU4 HBx.out).2
     have h1':=(HG.out.keep hb7).cell 1
     have f1':=(HG.out.keep hb7).free 1
     have hk7:Kp (· = g) (w6.alloc (.cells #[.string ⟨#[120]⟩,.string ⟨#[109]⟩,.int .i64 0] 60)) ((w6.alloc (.cells #[.string ⟨#[120]⟩,.string ⟨#[109]⟩,.int .i64 0] 60)).setCell ⟨g,1,none⟩ (.slice (some ⟨w6.heap.size,0,none⟩) 1 1)):=(Kp.refl (· = g) _).setCell (p:=⟨g,1,none⟩) rfl _
     have HG7:=Lib.hid (show Blk ((w6.alloc (.cells #[.string ⟨#[120]⟩,.string ⟨#[109]⟩,.int .i64 0] 60)).setCell ⟨g,1,none⟩ (.slice (some ⟨w6.heap.size,0,none⟩) 1 1)) g 58 #[.string ⟨#[]⟩,.slice (some ⟨w6.heap.size,0,none⟩) 1 1,.slice A l.length c,.slice none 0 0] from by simpa using(HG.out.keep hb7).set_ 1 (.slice (some ⟨w6.heap.size,0,none⟩) 1 1))
     have HN7:=Lib.hid ((HNs.out.below hb7).write (HG.out.keep hb7) (by simp) hk7)
     have HI7:=Lib.hid (hk7.blk (Blk.new w6 60 #[.string ⟨#[120]⟩,.string ⟨#[109]⟩,.int .i64 0]) (fun e=>by have:=HG.out.lt;omega))
     have HBx7:=Lib.hid (hk7.blk (HBx.out.keep hb7) (fun e=>zS7 HBx.out HG.out (by decide) e))
     have HL7:=Lib.hid ((HL.out.trans (hb7.mono HL.out.size)).trans (hk7.toBelow (Nat.le_trans HL.out.size hb7.size) fun b hb e=>by have:=HGe.out;omega))
     clear hb7 hk7
     go_upto_region 12 with fail
     clear b1 h1' f1'
     clear HL HNs HG HBx
     generalize hwq:(w6.alloc (.cells #[.string ⟨#[120]⟩,.string ⟨#[109]⟩,.int .i64 0] 60)).setCell ⟨g,1,none⟩ (.slice (some ⟨w6.heap.size,0,none⟩) 1 1)=w7 at HG7 HN7 HI7 HBx7 HL7 ⊢
     clear hwq
     have HL:=HL7
     have HNs:=HN7
     have HG:=HG7
     have HBx:=HBx7
     clear HL7 HN7 HG7 HBx7
     have HT:=Lib.hid (HR1.out.keep HL.out)
     have y0:=(zU4 HT.out).1
     have y1:=(zU4 HT.out).2
     have zf0:=HT.out.free 0
     have zf1:=HT.out.free 1
     have b0:=(zU4 HBx.out).1
     have b1:=(zU4 HBx.out).2
     go_wp2
     clear y0 y1 zf0 zf1 b0 b1
     obtain⟨hB8,hK8⟩:=res2 HT.out (.string ⟨#[]⟩) (.slice (some ⟨g,0,none⟩) 1 1)
     have HR:=Lib.hid (show ∃ A' q,Ending.returned (.agg #[.string ⟨#[]⟩,.slice (some ⟨g,0,none⟩) 1 1])=.returned (.agg #[.string ⟨#[]⟩,.slice A' 1 1])∧OkP _ _ ⟨[],A',1,[q]⟩∧plP ⟨[],A',1,[q]⟩=zA3 (zY6 mask k) true∧Below w.heap.size w _ from by
      have hz:=HB1.out.size
      have hgt:g≠w.heap.size:=fun e=>zS7 HG.out HT.out (by decide) e
      have hG8:=hK8.blk HG.out hgt
      have hN8:=HNs.out.write HT.out (by decide) hK8
      have hb8:Below w.heap.size w _:=(HB1.out.trans (HL.out.mono hz)).trans (hK8.toBelow (Nat.le_trans hz HL.out.size) fun b hb e=>by omega)
      refine⟨_,⟨[],some ⟨w6.heap.size,0,none⟩,1,[⟨[120],[109],0⟩],A,c,l,none,0,[]⟩,rfl,⟨Nat.zero_le _,⟨hG8.sl zI1 [⟨[],some ⟨w6.heap.size,0,none⟩,1,[⟨[120],[109],0⟩],A,c,l,none,0,[]⟩] rfl,by simp⟩,fun f hf=>?_⟩,?_,hb8⟩
      ·rw[List.mem_singleton.1 hf]
       have hI8:=hK8.blk HI7.out (fun e=>zS7 HI7.out HT.out (by decide) e)
       exact⟨Nat.zero_le _,⟨hI8.sl zO8 [⟨[120],[109],0⟩] rfl,by simp⟩,fun x hx=>by rw[List.mem_singleton.1 hx];decide,hN8.sl,hN8.ok,⟨.inl rfl,Nat.zero_le _⟩⟩
      ·show (⟨[],[⟨[],[⟨[120],[109],0⟩],plDs l,[]⟩]⟩:Pk)=_
       rw[HD.out]
       rfl)
     obtain⟨z0,z1⟩:=zU4 hB8
     refine bodyPost_ret (v:=.agg #[.string ⟨#[]⟩,.slice (some ⟨g,0,none⟩) 1 1]) ?_ rfl HR.out
     simp[results,Tryz.results31,go_sem,z0,z1]
end Go.Proofs.YtdgehhgjgifikaaGreatDoor
