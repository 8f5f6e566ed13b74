/- What the claim needs of:QF ZY. -/
import Derived.Test.YtdgehhgjgifikaaGreatDoorN36
import Derived.Test.YtdgehhgjgifikaaGreatDoorN35
import Derived.Test.YtdgehhgjgifikaaGreatDoorN29
namespace Go.Proofs.YtdgehhgjgifikaaGreatDoor
theorem ht_dp:(∀ e,∀ n,htE n e < n→dpE e≤htE n e)∧(∀ d,∀ n,htD n d < n→dpD d≤htD n d)∧(∀ l,∀ n,htEs n l < n→dpEs l≤htEs n l)∧∀ l,∀ n,htDs n l < n→dpDs l≤htDs n l:=
 zM9 (fun k t m a b subs decls tail pos h1 h2 n h=>by
   rw[htE] at h ⊢
   rw[dpE]
   by_cases h0:n=0
   ·omega
   ·rw[if_neg h0] at h ⊢
    have e1:=h1 (n-1) (by omega)
    have e2:=h2 (n-1) (by omega)
    omega)
  (fun k p l a b subs body tail lead trail pos h1 h2 n h=>by
   rw[htD] at h ⊢
   rw[dpD]
   by_cases h0:n=0
   ·omega
   ·rw[if_neg h0] at h ⊢
    have e1:=h1 (n-1) (by omega)
    have e2:=h2 (n-1) (by omega)
    omega)
  (fun n _=>by rw[dpEs];exact Nat.zero_le _)
  (fun e l h1 h2 n h=>by
   rw[htEs] at h ⊢
   rw[dpEs]
   have e1:=h1 n (by omega)
   have e2:=h2 n (by omega)
   omega)
  (fun n _=>by rw[dpDs];exact Nat.zero_le _)
  (fun d l h1 h2 n h=>by
   rw[htDs] at h ⊢
   rw[dpDs]
   have e1:=h1 n (by omega)
   have e2:=h2 n (by omega)
   omega)
theorem rz_dp (L:List E→Nat→List Scp→Option (E × Bool))(im:List (List Tx)) :
  (∀ e,∀ env lp file r,rzE L im e env lp file=some r→dpE r.1≤dpE e+15)∧(∀ d,∀ env lp file r,rzD L im d env lp file=some r→dpD r.1≤dpD d+15)∧
  (∀ l,∀ nm i env lp file r,rzEs L im nm i l env lp file=some r→dpEs r.1≤dpEs l+15)∧∀ l,∀ env lp file r,rzDs L im l env lp file=some r→dpDs r.1≤dpDs l+15:=
 zM9 (fun k t m a b subs decls tail pos h1 h2 env lp file r h=>by
   rw[rzE] at h
   split at h
   ·have e1:dpE (refT t (resR im env lp file t).1 (resR im env lp file t).2.1 [] pos)=1:=by
     unfold refT
     rw[dpE,dpEs,dpDs]
     rfl
    split at h
    ·injection h with h
     subst h
     simp only
     rw[e1]
     omega
    ·rename_i x _
     rw[Option.map_eq_some_iff] at h
     obtain⟨q,_,rfl⟩:=h
     unfold yK4
     split
     ·simp only
      rw[e1]
      omega
     ·rename_i h16
      have e2:=ht_dp.1 q.1 17 (by omega)
      have e3:dpE (refT t (resR im env lp file t).1 (resR im env lp file t).2.1 [q.1] pos)=dpE q.1+1:=by
       unfold refT
       rw[dpE,dpEs,dpEs,dpDs]
       omega
      simp only
      rw[e3,dpE]
      omega
   ·obtain⟨p,q,h3,h4,rfl⟩:=zX0.1 h
    have e1:=h1 _ _ _ _ _ _ h3
    have e2:=h2 _ _ _ _ h4
    simp only
    rw[dpE,dpE]
    omega)
  (fun k p l a b subs body tail lead trail pos h1 h2 env lp file r h=>by
   rw[rzD] at h
   obtain⟨x,q,h3,h4,rfl⟩:=zX0.1 h
   have e1:=h1 _ _ _ _ _ _ h3
   have e2:=h2 _ _ _ _ h4
   simp only
   rw[dpD,dpD]
   omega)
  (fun nm i env lp file r h=>by
   rw[rzEs] at h
   injection h with h
   subst h
   exact Nat.zero_le _)
  (fun e l h1 h2 nm i env lp file r h=>by
   rw[rzEs] at h
   obtain⟨x,q,h3,h4,rfl⟩:=zX0.1 h
   have e1:=h1 _ _ _ _ h3
   have e2:=h2 _ _ _ _ _ _ h4
   simp only
   rw[dpEs,dpEs]
   omega)
  (fun env lp file r h=>by
   rw[rzDs] at h
   injection h with h
   subst h
   exact Nat.zero_le _)
  (fun d l h1 h2 env lp file r h=>by
   rw[rzDs] at h
   obtain⟨x,q,h3,h4,rfl⟩:=zX0.1 h
   have e1:=h1 _ _ _ _ h3
   have e2:=h2 _ _ _ _ h4
   simp only
   rw[dpDs,dpDs]
   omega)
section
variable {R:Tx→Prop}
def PatV (R:Tx→Prop)(env:List Scp):Prop:=∀ x∈env,∀ l∈x.lets,PatEs R l.subs
theorem xV3 {l:List Lt}{s:Tx}{b:Lt}(h:zG7 l s=some b):b∈l:=by
 induction l with
 | nil=>cases h
 | cons p r ih=>
   rw[zG7] at h
   split at h
   ·rename_i x hx
    injection h with h
    subst h
    exact List.mem_cons_of_mem _ (ih hx)
   ·split at h
    ·injection h with h
     subst h
     simp
    ·cases h
theorem yN2 {t:Tx}:∀ {env:List Scp}{l:Lt}{env':List Scp},PatV R env→(yZ0 t env).2.2=some (l,env')→PatEs R l.subs∧PatV R env'
 | [],l,env',_,h=>by cases h
 | x ::r,l,env',hp,h=>by
   rw[yZ0] at h
   split at h
   ·rename_i b hb
    injection h with h
    injection h with h1 h2
    subst h1 h2
    exact⟨hp x (by simp) b (xV3 hb),hp⟩
   ·split at h
    ·cases h
    ·exact yN2 (fun y hy=>hp y (by simp[hy])) h
theorem resR_pat {im:List (List Tx)}{env:List Scp}{lp:List Tx}{file:Nat}{t:Tx}{x:Lt × List Scp}(hp:PatV R env)(h:(resR im env lp file t).2.2=some x):PatEs R x.1.subs∧PatV R x.2:=by
 unfold resR at h
 split at h
 ·cases h
 ·split at h
  ·split at h <;> cases h
  ·exact yN2 (l:=x.1) (env':=x.2) hp h
theorem yH9:∀ {l:List D}{file:Nat},PatDs R l→∀ x∈yS3 l file,PatEs R x.subs
 | [],_,_,x,hx=>by cases hx
 | d ::l,file,h,x,hx=>by
   unfold yS3 at hx
   obtain⟨y,hy,rfl⟩:=List.mem_map.1 hx
   have hy':=(List.mem_filter.1 hy).1
   have:=PatDs.at_ h hy'
   cases y
   exact this.2.1
theorem xV4 {l:List D}{file:Nat}{env:List Scp}(h:PatDs R l)(hp:PatV R env):PatV R (xW6 l file ::env):=fun x hx=>by
 rcases List.mem_cons.1 hx with rfl | hx
 ·exact yH9 h
 ·exact hp x hx
theorem yS4 {t:Tx}{kd dp pos:Int}{l:List E}(h:PatEs R l):PatE R (refT t kd dp l pos):=by
 unfold refT
 rw[PatE,PatDs]
 exact⟨h,trivial⟩
theorem rz_pat {L:List E→Nat→List Scp→Option (E × Bool)}(im:List (List Tx))(hL:∀ s f env r,PatEs R s→PatV R env→L s f env=some r→PatE R r.1) :
  (∀ e,∀ env lp file r,rzE L im e env lp file=some r→PatE R e→PatV R env→PatE R r.1)∧(∀ d,∀ env lp file r,rzD L im d env lp file=some r→PatD R d→PatV R env→PatD R r.1)∧
  (∀ l,∀ nm i env lp file r,rzEs L im nm i l env lp file=some r→PatEs R l→PatV R env→PatEs R r.1)∧∀ l,∀ env lp file r,rzDs L im l env lp file=some r→PatDs R l→PatV R env→PatDs R r.1:=
 zM9 (fun k t m a b subs decls tail pos h1 h2 env lp file r h hp hv=>by
   rw[rzE] at h
   rw[PatE] at hp
   split at h
   ·split at h
    ·injection h with h
     subst h
     exact yS4 (by rw[PatEs];trivial)
    ·rename_i x hx
     rw[Option.map_eq_some_iff] at h
     obtain⟨q,hq,rfl⟩:=h
     obtain⟨p1,p2⟩:=resR_pat hv hx
     have:=hL _ _ _ _ p1 p2 hq
     unfold yK4
     split
     ·exact yS4 (by rw[PatEs];trivial)
     ·exact yS4 (by rw[PatEs,PatEs];exact⟨this,trivial⟩)
   ·obtain⟨x,q,h3,h4,rfl⟩:=zX0.1 h
    rw[PatE]
    refine⟨h1 _ _ _ _ _ _ h3 hp.1 hv,h2 _ _ _ _ h4 hp.2 ?_⟩
    split
    ·exact xV4 hp.2 hv
    ·exact hv)
  (fun k p l a b subs body tail lead trail pos h1 h2 env lp file r h hp hv=>by
   rw[rzD] at h
   obtain⟨x,q,h3,h4,rfl⟩:=zX0.1 h
   rw[PatD] at hp ⊢
   exact⟨hp.1,h1 _ _ _ _ _ _ h3 hp.2.1 hv,h2 _ _ _ _ h4 hp.2.2 hv⟩)
  (fun nm i env lp file r h _ _=>by
   rw[rzEs] at h
   injection h with h
   subst h
   rw[PatEs]
   trivial)
  (fun e l h1 h2 nm i env lp file r h hp hv=>by
   rw[rzEs] at h
   obtain⟨x,q,h3,h4,rfl⟩:=zX0.1 h
   rw[PatEs] at hp ⊢
   exact⟨h1 _ _ _ _ h3 hp.1 hv,h2 _ _ _ _ _ _ h4 hp.2 hv⟩)
  (fun env lp file r h _ _=>by
   rw[rzDs] at h
   injection h with h
   subst h
   rw[PatDs]
   trivial)
  (fun d l h1 h2 env lp file r h hp hv=>by
   rw[rzDs] at h
   obtain⟨x,q,h3,h4,rfl⟩:=zX0.1 h
   rw[PatDs] at hp ⊢
   exact⟨h1 _ _ _ _ h3 hp.1 hv,h2 _ _ _ _ h4 hp.2 hv⟩)
theorem xV5 (im:List (List Tx)):∀ n,∀ s f env r,PatEs R s→PatV R env→rzL im n s f env=some r→PatE R r.1
 | 0,_,_,_,_,_,_,h=>by rw[rzL] at h;cases h
 | n+1,s,f,env,r,hs,hv,h=>by
   match s,hs,h with
   | [],_,h=>cases h
   | [e],hs,h=>
     rw[PatEs] at hs
     exact(rz_pat im (xV5 im n)).1 _ _ _ _ _ h hs.1 hv
   | _ ::_ ::_,_,h=>cases h
end
theorem yG0 {im:List (List Tx)}{n:Nat}{env:List Scp}{Q:List D→Prop}:∀ {l:List (List D)}{i:Nat}{r:List (List D) × Bool},rzFs im n env i l=some r→(∀ d∈l,∀ j q,rzDs (rzL im n) im d env [] j=some q→Q q.1)→r.1.length=l.length∧∀ d∈r.1,Q d
 | [],_,r,h,_=>by
   rw[rzFs] at h
   injection h with h
   subst h
   exact⟨rfl,fun d hd=>by cases hd⟩
 | d ::l,i,r,h,hQ=>by
   rw[rzFs] at h
   obtain⟨x,q,h3,h4,rfl⟩:=zX0.1 h
   obtain⟨h5,h6⟩:=yG0 h4 fun y hy=>hQ y (by simp[hy])
   refine⟨by simp[h5],fun y hy=>?_⟩
   rcases List.mem_cons.1 hy with rfl | hy
   ·exact hQ d (by simp) _ _ h3
   ·exact h6 y hy
theorem xV6 {R:Tx→Prop}{fs:List Fl}(h:∀ f∈fs,PatDs R f.decls):PatV R [zG9 fs]:=fun x hx=>by
 rw[List.mem_singleton] at hx
 subst hx
 have H:∀ (l:List Fl) (i:Nat),(∀ f∈l,PatDs R f.decls)→∀ y∈zF7 i l,PatEs R y.subs:=by
  intro l
  induction l with
  | nil=>intro i _ y hy;cases hy
  | cons f l ih=>
    intro i hl y hy
    rw[zF7] at hy
    rcases List.mem_append.1 hy with hy | hy
    ·exact yH9 (hl f (by simp)) y hy
    ·exact ih (i+1) (fun g hg=>hl g (by simp[hg])) y hy
 exact H fs 0 h
theorem rzP_ok {R:Tx→Prop}{fs:List Fl}{n:Nat}{r:List (List D) × Bool}(h:rzP n fs=some r)(hp:∀ f∈fs,PatDs R f.decls)(hd:∀ f∈fs,dpDs f.decls≤16):r.1.length=fs.length∧∀ d∈r.1,PatDs R d∧dpDs d≤31:=by
 have h2:=yG0 (Q:=fun d=>PatDs R d∧dpDs d≤31) h fun d hd2 j q hq=>by
  obtain⟨f,hf,rfl⟩:=List.mem_map.1 hd2
  refine⟨(rz_pat _ (xV5 _ n)).2.2.2 _ _ _ _ _ hq (hp f hf) (xV6 hp),?_⟩
  have h3:=(rz_dp _ _).2.2.2 _ _ _ _ _ hq
  have:=hd f hf
  omega
 rwa [List.length_map] at h2
open Go.RowKit
theorem yS5 {α:Type}{z:Zn}{w0 wx:World}{k:Nat}{enc:α→List Value}{A':Option Addr}{xs:List α}(hz:z.Ok w0)(hs:Sl wx wx.heap.size k enc A' xs)(hn:∀ a,xs≠[]→A'=some a→w0.heap.size≤a.block):∀ q,(xs≠[]∧∃ ad,A'=some ad∧ad.block=q)→Mine z wx q∧w0.heap.size≤q:=fun q ⟨hnt,ad,h1,h2⟩=>by
 have h3:=hn ad hnt h1
 have h4:ad.block < wx.heap.size:=by
  rcases hs with h5 | ⟨b5,o5,h5,h6,_⟩
  ·exact absurd h5 hnt
  ·rw[h1] at h5
   injection h5 with h5
   rw[h5]
   exact h6
 rw[h2] at h3 h4
 exact⟨hz.new_ h3 h4,h3⟩
theorem fresh_sl {α:Type}{Im:Nat→Prop}{wx:World}{k:Nat}{enc:α→List Value}{A':Option Addr}{xs:List α}(hs:Sl wx wx.heap.size k enc A' xs)(hl:xs.length≤1048576):SlI (fun q=>Im q∨(xs≠[]∧∃ ad,A'=some ad∧ad.block=q)) wx k enc A' xs:=by
 refine⟨hs,hl,?_⟩
 by_cases hnt:xs=[]
 ·exact .inl hnt
 ·exact .inr fun ad had=>.inr ⟨hnt,ad,had,rfl⟩
def RetII (w:World)(l:List Imp)(e:Ending)(w':World):Prop:=∃ A c,e=.returned (.slice A l.length c)∧SlN w' w'.heap.size 3 encI A l∧Below w.heap.size w w'∧∀ a,l≠[]→A=some a→w.heap.size≤a.block
theorem xV7:ElT Tryz.prog 55 60 3 40:=ElT.mk_ (z:=.agg #[.string ByteArray.empty,.string ByteArray.empty,.int .i64 0]) Tryz.underlying55 (by kernel_rfl) (by kernel_rfl) (by decide)
theorem yG1 (l:List Imp):∀ u∈l.flatMap encI,u.oneCell'=true:=fun u hu=>by
 obtain⟨x,_,hx⟩:=List.mem_flatMap.1 hu
 simp only[encI,List.mem_cons,List.not_mem_nil,or_false] at hx
 rcases hx with rfl | rfl | rfl <;> rfl
set_option maxRecDepth 100000 in
set_option maxHeartbeats 1000000 in
theorem yC3 (A:Option Addr)(c:Nat)(l:List Imp)(w:World)(hA:SlN w w.heap.size 3 encI A l):Calls Tryz.prog 61 #[.slice A l.length c] w (RetII w l):=by
 obtain⟨hA,hl⟩:=hA
 rcases hA with rfl | ⟨b,off,rfl,hb,hc⟩
 ·rcases A with _ | ad
  ·refine(AnyE.slices_Clone_nil Tryz.cloneI 0 c w).mono ?_
   rintro e w' ⟨rfl,rfl⟩
   exact⟨none,0,rfl,⟨Sl.nil_,Nat.zero_le _⟩,Below.refl _ _,fun a h=>absurd rfl h⟩
  ·have q:=fun(w:World)=>Lib.run_eql_slice_nil w _ _ (some ad) 0 c 0 0 Tryz.underlying55
   have hac:=Acc.marked w #[] w.heap.size 60 3 0 (0,0) rfl
   show Calls Tryz.prog 61 #[.slice (some ad) 0 c] w _
   go_enter Tryz.func61,Tryz.ntmps61
   go_wp2_with (at_builtin;refine zU1 _ rfl (.tmp 5) (.tmp 6) 55 rfl w.heap.size 60 3 40 xV7 (.slice (some ⟨w.heap.size,0,none⟩) 0 0) 0 _ rfl hac (some ad) 0 c [] rfl ⟨rfl,fun h=>absurd h (by decide)⟩ (by simp) (by simp[maxLen]) (by omega) (by simp) ?_;intro v' w1 hacc' _ hb' _ _)
   go_ret
   obtain⟨A',c',rfl⟩:=hacc'.shape
   exact⟨A',c',rfl,⟨.inl rfl,Nat.zero_le _⟩,((Below.refl _ _).alloc (Nat.le_refl _) _).trans hb',fun a h=>absurd rfl h⟩
 ·obtain⟨_,h0,i,z,e1,e2,e3,e4,e5⟩:=xV7
  have hsr:=(Sl.src (.inr ⟨b,off,rfl,hb,hc⟩:Sl w w.heap.size 3 encI (some ⟨b,off,none⟩) l) zO8)
  refine(AnyE.slices_Clone Tryz.cloneI i z 3 40 e1 e2 e3 e4 e5 h0 Tryz.sizeOf60 b off l.length c (l.flatMap encI) w (zL0 zO8 l) (by simp only[maxLen];omega) (by omega) (fun j u hu=>?_) (yG1 l)).mono ?_
  ·rcases Nat.eq_zero_or_pos l.length with h0' | hpos
   ·obtain rfl:l=[]:=List.eq_nil_of_length_eq_zero h0'
    simp at hu
   ·obtain⟨ad,had,hcs⟩:=hsr.2 hpos
    injection had with had
    subst had
    have:=hcs j u hu
    rwa [Addr.add_lit] at this
  ·rintro e w' ⟨v,rfl,h1,h2,h3⟩
   have hA:Acc w' w.heap.size 60 3 v l.length (l.flatMap encI):=.inl h1
   obtain⟨A',c',rfl⟩:=hA.shape
   obtain⟨_,h4⟩:=zO1 zO8 hA (by decide)
   exact⟨A',c',rfl,⟨h4,hl⟩,h3,fun a _ ha=>by subst ha;exact(h1.lt a.block rfl).1⟩
structure FI (Im:Nat→Prop)(w:World)(f:FA):Prop where
 pkg:f.pkg.length≤maxLen
 nm:∀ x∈f.imps,x.name.length≤maxLen
 im:SlI Im w 3 encI f.Ai f.imps
 ds:SlI Im w 11 encD f.Ad f.decls
 ok:OkIds Im w f.decls
 tl:SlI Im w 1 encS f.At f.tail
theorem FI.kept {Im Im' N:Nat→Prop}{w w':World}{f:FA}(h:FI Im w f)(hk:Kp N w w')(hN:∀ b,Im b→¬ N b)(hI:∀ b,Im b→Im' b):FI Im' w' f:=
 ⟨h.pkg,h.nm,h.im.kept hk hN hI,h.ds.kept hk hN hI,(zZ5 hk hN hI).2.2.2 _ h.ok,h.tl.kept hk hN hI⟩
theorem FI.okF {Im:Nat→Prop}{w:World}{f:FA}(h:FI Im w f):OkF w w.heap.size f:=⟨h.pkg,h.im.n,h.nm,h.ds.n,yA7.2.2.2 _ h.ok,h.tl.n⟩
theorem okI_sz {Im:Nat→Prop}{w:World}:(∀ e,OkI Im w e→szE e)∧(∀ d,OkId Im w d→szD d)∧(∀ l,OkIs Im w l→szEs l)∧∀ l,OkIds Im w l→szDs l:=
 zX4 (fun _ _ _ _ _ _ _ _ _ _ _ _ _ _ _ h1 h2 h=>⟨h.2.1.2.1,h1 h.2.2.1,h.2.2.2.1.2.1,h2 h.2.2.2.2.1,h.2.2.2.2.2.2.1⟩)
  (fun _ _ _ _ _ _ _ _ _ _ _ _ _ _ _ _ _ _ _ h1 h2 h=>⟨h.2.1.2.1,h1 h.2.2.1,h.2.2.2.1.2.1,h2 h.2.2.2.2.1,h.2.2.2.2.2.1.2.1,h.2.2.2.2.2.2.2.1⟩)
  (fun _=>trivial) (fun _ _ h1 h2 h=>⟨h1 h.1,h2 h.2⟩) (fun _=>trivial) (fun _ _ h1 h2 h=>⟨h1 h.1,h2 h.2⟩)
section
variable {X:Type}{w0 w1 wx wy:World}{p:PA}{s s':Nat}{R:RF}{C:Clo X}{env:List ScA}{σ σ':GS X}{Im Im':Nat→Prop}{v:Value}{fas:List FA}{N:Nat→Prop}
structure BtwR (w0 w1:World)(p:PA)(s:Nat)(R:RF)(C:Clo X)(env:List ScA)(σ:GS X)(Im:Nat→Prop)(wx:World):Prop where
 st:St R C 1099511627776 s σ Im wx
 pk:PkI Im wx R p.files
 en:EnvI Im wx (.pointer (some ⟨R.root,0,none⟩)) env
 kn:EnvK σ.ρ.objs env
 nb:∀ b,Im b→b < w0.heap.size∨w1.heap.size≤b
 mo:∀ b,(zn R C σ Im).Mut b→w1.heap.size≤b
 nu:R.uB.length=p.files.length
 lo:Below w1.heap.size w1 wx
theorem BtwR.step (h:BtwR w0 w1 p s R C env σ Im wx)(hS:St R C 1099511627776 s' σ' Im' wy)(hQ:Sp (zn R C σ Im) wx (zn R C σ' Im') wy)(hG:Gr wx σ σ'):BtwR w0 w1 p s' R C env σ' Im' wy:=by
 have hN:∀ b,Im b→¬ (zn R C σ Im).Mut b:=fun b hb hm=>(h.st.zo.mu b hm).2 hb
 exact⟨hS,h.pk.kept hQ.kp hN hQ.im,h.en.kept hQ.kp hN hQ.im,h.kn.gr hG,fun b hb=>(hQ.ni b hb).elim (h.nb b) fun h2=>.inr (Nat.le_trans h.lo.size h2),fun b hb=>(hQ.mu b hb).elim (h.mo b) fun h2=>Nat.le_trans h.lo.size h2,h.nu,
  h.lo.trans (hQ.kp.toBelow h.lo.size fun b hb hm=>by have:=h.mo b hm;omega)⟩
theorem BtwR.write (h:BtwR w0 w1 p s R C env σ Im wx)(hk:Kp N wx wy)(hN:∀ b,N b→w1.heap.size≤b∧¬ (zn R C σ Im).Mut b∧¬ Im b):BtwR w0 w1 p s R C env σ Im wy:=by
 have hi:∀ b,Im b→¬ N b:=fun b hb hn=>(hN b hn).2.2 hb
 exact⟨h.st.kept hk fun b hb=>(hN b hb).2,h.pk.kept hk hi (fun _ h=>h),h.en.kept hk hi (fun _ h=>h),h.kn,h.nb,h.mo,h.nu,h.lo.trans (hk.toBelow h.lo.size fun b hb hn=>by have:=(hN b hn).1;omega)⟩
theorem BtwR.below (h:BtwR w0 w1 p s R C env σ Im wx)(hb:Below wx.heap.size wx wy):BtwR w0 w1 p s R C env σ Im wy:=h.write (N:=fun _=>False) (Kp.ofBelow hb _) fun _ h=>h.elim
theorem BtwR.less (h:BtwR w0 w1 p s R C env σ Im wx)(hs:s'≤s):BtwR w0 w1 p s' R C env σ Im wx:=⟨h.st.less hs (Nat.le_refl _),h.pk,h.en,h.kn,h.nb,h.mo,h.nu,h.lo⟩
theorem BtwR.freeze (h:BtwR w0 w1 p s R C env σ Im wx){F:Nat→Prop}(hF:∀ b,F b→Mine (zn R C σ Im) wx b∧w1.heap.size≤b):BtwR w0 w1 p s R C env σ (fun b=>Im b∨F b) wx:=by
 have hk:Kp (fun _=>False) wx wx:=Kp.refl _ _
 exact⟨h.st.freeze fun b hb=>⟨(hF b hb).1,trivial⟩,h.pk.kept hk (fun _ _ h=>h) (fun _ h=>.inl h),h.en.kept hk (fun _ _ h=>h) (fun _ h=>.inl h),h.kn,fun b hb=>hb.elim (h.nb b) fun h2=>.inr (hF b h2).2,h.mo,h.nu,h.lo⟩
def MineR (R:RF)(C:Clo X)(σ:GS X)(Im:Nat→Prop)(w1 wx:World)(b:Nat):Prop:=Mine (zn R C σ Im) wx b∧w1.heap.size≤b
theorem MineR.up {b:Nat}(h:MineR R C σ Im w1 wx b)(hs:wx.heap.size≤wy.heap.size):MineR R C σ Im w1 wy b:=⟨h.1.up hs,h.2⟩
theorem MineR.step {b:Nat}(h:MineR R C σ Im w1 wx b)(hQ:Sp (zn R C σ Im) wx (zn R C σ' Im') wy):MineR R C σ' Im' w1 wy b:=⟨hQ.own h.1,h.2⟩
theorem MineR.freeze {b:Nat}(h:MineR R C σ Im w1 wx b){F:Nat→Prop}(hF:¬ F b):MineR R C σ (fun b=>Im b∨F b) w1 wx b:=⟨⟨h.1.1,h.1.2.1,fun hb=>hb.elim h.1.2.2 hF⟩,h.2⟩
theorem BtwR.new_ (h:BtwR w0 w1 p s R C env σ Im wx){b:Nat}(hb:wx.heap.size≤b)(hs:b < wy.heap.size):MineR R C σ Im w1 wy b:=⟨h.st.zo.new_ hb hs,Nat.le_trans h.lo.size hb⟩
structure FsR (R:RF)(C:Clo X)(w1:World)(bo:Nat)(v:Value)(fas:List FA)(σ:GS X)(Im:Nat→Prop)(wx:World):Prop where
 ac:Acc wx 0 58 4 v fas.length (fas.flatMap encF)
 ma:∀ b,v.ownBlock=some b→MineR R C σ Im w1 wx b∧b≠bo
 ok:∀ f∈fas,FI Im wx f
theorem FsR.nil_ {bo:Nat}:FsR R C w1 bo (.slice none 0 0) [] σ Im wx:=⟨Acc.nil_ _ _ _ _,fun b hb=>(by cases hb),fun _ h=>(by cases h)⟩
theorem FsR.write {bo:Nat}(h:FsR R C w1 bo v fas σ Im wx)(hk:Kp N wx wy)(h1:∀ b,v.ownBlock=some b→¬ N b)(h2:∀ b,Im b→¬ N b):FsR R C w1 bo v fas σ Im wy:=
 ⟨zL8 h.ac hk h1,fun b hb=>⟨(h.ma b hb).1.up hk.size,(h.ma b hb).2⟩,fun f hf=>(h.ok f hf).kept hk h2 (fun _ h=>h)⟩
theorem FsR.below {bo:Nat}(h:FsR R C w1 bo v fas σ Im wx)(hb:Below wx.heap.size wx wy):FsR R C w1 bo v fas σ Im wy:=h.write (N:=fun _=>False) (Kp.ofBelow hb _) (fun _ _ h=>h) fun _ _ h=>h
theorem FsR.step {bo:Nat}(h:FsR R C w1 bo v fas σ Im wx)(hz:(zn R C σ Im).Ok wx)(hQ:Sp (zn R C σ Im) wx (zn R C σ' Im') wy):FsR R C w1 bo v fas σ' Im' wy:=
 ⟨zL8 h.ac hQ.kp fun b hb=>(h.ma b hb).1.1.2.1,fun b hb=>⟨(h.ma b hb).1.step hQ,(h.ma b hb).2⟩,fun f hf=>(h.ok f hf).kept hQ.kp (fun b hb hm=>(hz.mu b hm).2 hb) hQ.im⟩
theorem FsR.freeze {bo:Nat}(h:FsR R C w1 bo v fas σ Im wx){F:Nat→Prop}(hF:∀ b,v.ownBlock=some b→¬ F b):FsR R C w1 bo v fas σ (fun b=>Im b∨F b) wx:=
 ⟨h.ac,fun b hb=>⟨(h.ma b hb).1.freeze (hF b hb),(h.ma b hb).2⟩,fun f hf=>(h.ok f hf).kept (N:=fun _=>False) (Kp.refl _ _) (fun _ _ h=>h) (fun _ h=>.inl h)⟩
theorem FsR.app {bo:Nat}(h:FsR R C w1 bo v fas σ Im wx)(hz:(zn R C σ Im).Ok wx)(hw:w1.heap.size≤wx.heap.size)(hbo:bo < wx.heap.size){f':FA}(he:FI Im wx f'){o:Obj}{v':Value}(hac:Acc wy 0 58 4 v' (fas.length+1) (fas.flatMap encF++encF f'))(hg:(wx.alloc o).grownBy wy v.ownBlock)(hob:v'.ownBlock=v.ownBlock∨∃ g,v'.ownBlock=some g∧(wx.alloc o).heap.size≤g) :
  FsR R C w1 bo v' (fas++ [f']) σ Im wy∧Kp (fun b=>v.ownBlock=some b) wx wy:=by
 have hk:Kp (fun b=>v.ownBlock=some b) wx wy:=((Kp.refl _ wx).alloc o).grown hg fun k hk=>.inl hk
 have hN:∀ b,Im b→¬ v.ownBlock=some b:=fun b hb hv=>(h.ma b hv).1.1.2.2 hb
 refine⟨⟨?_,fun b hb=>?_,fun f hf=>?_⟩,hk⟩
 ·rw[List.length_append,List.flatMap_append]
  simpa using hac
 ·rcases hob with h1 | ⟨g,h1,h2⟩
  ·have:=h.ma b (h1▸hb)
   exact⟨this.1.up hk.size,this.2⟩
  ·rw[h1] at hb
   injection hb with hb
   subst hb
   simp only[World.size_alloc] at h2
   have hlt:g < wy.heap.size:=by
    rcases hac with h3 | ⟨_,g2,off,h3,h4,_⟩
    ·exact(h3.lt g h1).2
    ·rw[h3] at h1
     injection h1 with h1
     exact h1▸h4
   exact⟨⟨hz.new_ (by omega) hlt,by omega⟩,by omega⟩
 ·rcases List.mem_append.1 hf with hf | hf
  ·exact(h.ok f hf).kept hk hN (fun _ h=>h)
  ·rw[List.mem_singleton.1 hf]
   exact he.kept hk hN (fun _ h=>h)
end
def outF (fs:List Fl)(rs:List (List D)):List Fl:=(fs.zip rs).map fun q=>⟨q.1.pkg,q.1.imps,q.2,q.1.tail⟩
def FsD (p:PA)(i:Nat)(rs:List (List DA))(fas:List FA):Prop:=fas.length=i∧rs.length=i∧fas.map (fun f=>(f.pkg,f.imps,f.decls,f.tail))=((p.files.take i).zip rs).map fun q=>(q.1.pkg,q.1.imps,q.2,q.1.tail)
theorem FsD.snoc {p:PA}{i:Nat}{rs:List (List DA)}{fas:List FA}{d:List DA}{g:FA}(h:FsD p i rs fas)(hi:i < p.files.length)(hg:(g.pkg,g.imps,g.decls,g.tail)=(p.files[i].pkg,p.files[i].imps,d,p.files[i].tail)):FsD p (i+1) (rs++ [d]) (fas++ [g]):=by
 obtain⟨h1,h2,h3⟩:=h
 refine⟨by simp[h1],by simp[h2],?_⟩
 rw[List.map_append,h3,List.take_succ_eq_append_getElem hi,List.zip_append (by rw[List.length_take,h2];omega),List.map_append]
 congr 1
 simp only[List.map_cons,List.map_nil,List.zip_cons_cons,List.zip_nil_right]
 rw[hg]
theorem FsD.out {p:PA}{rs:List (List DA)}{fas:List FA}(h:FsD p p.files.length rs fas):fas.map plF=outF (plP p).files (rs.map plDs):=by
 obtain⟨h1,h2,h3⟩:=h
 rw[List.take_length] at h3
 have h4:=congrArg (List.map fun q:Tx × List Imp × List DA × List Tx=>(⟨q.1,q.2.1,plDs q.2.2.1,q.2.2.2⟩:Fl)) h3
 rw[List.map_map,List.map_map] at h4
 unfold outF plP
 rw[List.zip_map,List.map_map]
 exact h4
theorem FsD.mem {p:PA}{i:Nat}{rs:List (List DA)}{fas:List FA}(h:FsD p i rs fas):∀ f∈fas,f.decls∈rs:=fun f hf=>by
 have h1:(f.pkg,f.imps,f.decls,f.tail)∈fas.map fun f=>(f.pkg,f.imps,f.decls,f.tail):=List.mem_map.2 ⟨f,hf,rfl⟩
 rw[h.2.2] at h1
 obtain⟨q,hq,e⟩:=List.mem_map.1 h1
 have:=(List.of_mem_zip hq).2
 injection e with _ e
 injection e with _ e
 injection e with e _
 exact e▸this
def ResK (rx:Tx→Bool)(p:Pk)(out:List Fl)(err:Int):Prop:=
 (errP rx p≠0∧out=[]∧err=errP rx p)∨
 (errP rx p=0∧(∀ N,rzP N p.files=none)∧out=[]∧err=15)∨
 (errP rx p=0∧∃ N rs dp,rzP N p.files=some (rs,dp)∧
  (((dp=true∨∃ f∈outF p.files rs,errF rx f≠0)∧out=[]∧err=9)∨(dp=false∧(∀ f∈outF p.files rs,errF rx f=0)∧out=outF p.files rs∧err=0)))
def yG2 (rx:Tx→Bool)(p:PA)(w:World)(e:Ending)(w':World):Prop:=
 Below w.heap.size w w'∧∃ q:PA,∃ err:Int,e=.returned (.tuple #[.agg #[.string ⟨q.path.toArray⟩,.slice q.A q.files.length q.c],.int .i64 err])∧PkL w' q∧ResK rx (plP p) (plP q).files err∧(err=0→q.path=p.path)∧(err≠0→q.path=[]∧q.A=none∧q.files=[]∧q.c=0)
theorem zU4 {w:World}{g:Nat}{ty:TypeId}{v0 v1:Value}(h:Blk w g ty #[v0,v1]):w.cell? ⟨g,0,none⟩=some v0∧w.cell? ⟨g,1,none⟩=some v1:=⟨h.cell 0,h.cell 1⟩
theorem res2 {w:World}{g:Nat}{ty:TypeId}{z0 z1:Value}(h:Blk w g ty #[z0,z1])(v0 v1:Value):Blk ((w.setCell ⟨g,0,none⟩ v0).setCell ⟨g,1,none⟩ v1) g ty #[v0,v1]∧Kp (· = g) w ((w.setCell ⟨g,0,none⟩ v0).setCell ⟨g,1,none⟩ v1):=
 ⟨by simpa using(h.set_ 0 v0).set_ 1 v1,((Kp.refl (· = g) w).setCell (p:=⟨g,0,none⟩) rfl v0).setCell (p:=⟨g,1,none⟩) rfl v1⟩
theorem pkL_none (w:World):PkL w ⟨[],none,0,[]⟩:=⟨⟨Nat.zero_le _,⟨.inl rfl,Nat.zero_le _⟩,fun _ h=>(by cases h)⟩,Nat.zero_le _,fun _ h=>(by cases h),fun _ h=>(by cases h)⟩
theorem zF0 {rx:Tx→Bool}{p:PA}{w wA wf:World}{err:Int}{g:Nat}(hb:Below w.heap.size w wA)(hk:Kp (· = g) wA wf)(hg:w.heap.size≤g)(hne:err≠0)(hr:ResK rx (plP p) [] err):yG2 rx p w (.returned (.tuple #[.agg #[.string ⟨#[]⟩,.slice none 0 0],.int .i64 err])) wf:=
 ⟨hb.trans (hk.toBelow hb.size fun b hb e=>by omega),⟨[],none,0,[]⟩,err,rfl,pkL_none wf,hr,fun h=>absurd h hne,fun _=>⟨rfl,rfl,rfl,rfl⟩⟩
def RL (R:RF):UseR Bool:=RsU R 1099511627776
theorem declsR {R:RF}{br bd:Nat}(hU:R.use=.func (.func 59) #[] #[.pointer (some ⟨br,0,none⟩),.pointer (some ⟨bd,0,none⟩)])(l:List DA):zR8 R (cloR R.r br bd) 1099511627776 (RL R) l:=
 zK9 hU Tryz.call59 (yO9 hU (fun _ _ h=>cloR_any h) 1099511627776) l
end Go.Proofs.YtdgehhgjgifikaaGreatDoor
