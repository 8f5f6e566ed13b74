/- What the claim needs of:QI. -/
import Derived.Test.YtdgehhgjgifikaaGreatDoorN40
namespace Go.Proofs.YtdgehhgjgifikaaGreatDoor
open Go.RowKit
def rxT:Tx→Bool:=fun _=>true
def zK4 (A:Option Addr):EA:=.mk 15 [] 0 [107] [118] A 2 [nmE [97] 2,nmE [107] 3] none 0 [] none 0 [] 0
def zH3 (A2 A:Option Addr):EA:=.mk 14 [] 0 [] [] A2 2 [zK4 A,nmE [120] 4] none 0 [] none 0 [] 0
def ex1 (Aa Ab Ac A2 A:Option Addr):List DA:=[letD [108] Aa (numE 10000),fldD [97] Ab (nmE [108] 1),fldD [98] Ac (zH3 A2 A)]
def ex2 (Aa Ab:Option Addr):List DA:=[letD [97] Aa (nmE [98] 0),letD [98] Ab (nmE [97] 0)]
def zH4 (A:Option Addr)(c:Nat)(l:List DA):EA:=.mk 13 [] 0 [] [] none 0 [] A c l none 0 [] 0
def ex3 (Aa Ab A Ac Ad:Option Addr):List DA:=[fldD [97] Aa (numE 10000),fldD [98] Ab (zH4 A 2 [fldD [97] Ac (numE 20000),fldD [99] Ad (nmE [97] 7)])]
def P1:Pk:=plP (pkA none none 0 (ex1 none none none none none))
def P2:Pk:=plP (pkA none none 0 (ex2 none none))
def P3:Pk:=plP (pkA none none 0 (ex3 none none none none none))
theorem uses1:zS9 rxT P1=([⟨0,1,[108],2,0⟩,⟨0,2,[97],1,0⟩,⟨0,3,[107],3,0⟩,⟨0,4,[120],0,0⟩],0):=by kernel_rfl
theorem undef1:zF6 rxT P1=([⟨0,4,[120],0,0⟩],0):=by kernel_rfl
theorem decl1:zN8 rxT P1=([[97],[98],[108]],0):=by kernel_rfl
theorem err1:errP rxT P1=0:=by kernel_rfl
theorem err2:errP rxT P2=0:=by kernel_rfl
theorem uses3:zS9 rxT P3=([⟨0,7,[97],1,1⟩],0):=by kernel_rfl
theorem nd1:ndFs P1.files≤1048576:=by decide
theorem nd2:ndFs P2.files≤1048576:=by decide
theorem nd3:ndFs P3.files≤1048576:=by decide
theorem zA0 {file:Nat}{s:Tx}{x:Int × Int × Option Nat}{ρ:RS}(h:∀ o∈ρ.objs,o.used=true):∀ o∈(zU5 file s x ρ).objs,o.used=true:=fun o ho=>by
 unfold zU5 at ho
 split at ho
 ·obtain⟨y,hy,rfl⟩:=List.mem_map.1 ho
  unfold zR2
  split
  ·rfl
  ·exact h y hy
 ·split at ho <;> exact h o ho
theorem vis_num {R:RF}{n:Int}{env:List ScA}{lp:List Tx}{file:Nat}{σ σ':GS Unit}{e':EA}(h:VisE R U0 (numE n) env lp file σ σ' e'):σ'=σ:=by
 unfold numE at h
 rw[VisE] at h
 rcases h with ⟨h,_⟩ | ⟨_,σ1,subs',σ2,env2,decls',As',cs',Ad',cd',At',ct',hs,hd,hds,_⟩
 ·exact absurd h (by decide)
 ·rw[zW1] at hs
  rw[zX7] at hds
  rcases hd with ⟨h,_⟩ | ⟨_,h2,_⟩
  ·exact absurd h (by decide)
  ·rw[hds.1,h2,hs.1]
theorem yG6 {R:RF}{s:Tx}{pos:Int}{env:List ScA}{lp:List Tx}{file:Nat}{σ σ':GS Unit}{e':EA}(h:VisE R U0 (nmE s pos) env lp file σ σ' e'):σ'= {σ with ρ:=zU5 file s (zW6 R.imps env lp file s) σ.ρ}:=by
 unfold nmE at h
 rw[VisE] at h
 rcases h with ⟨_,h,_⟩ | ⟨h,_⟩
 ·exact h
 ·exact absurd rfl h
theorem vis_let {R:RF}{s:Tx}{A:Option Addr}{x:EA}{env:List ScA}{lp:List Tx}{file:Nat}{σ σ':GS Unit}{d':DA}(h:VisD R U0 (letD s A x) env lp file σ σ' d'):∃ e',VisE R U0 x env lp file σ σ' e':=by
 unfold letD at h
 rw[VisD] at h
 obtain⟨σ1,subs',body',As',cs',Ab',cb',At',ct',Al',cl',hs,hb,_⟩:=h
 rw[zW1] at hs
 obtain⟨σ2,e1,r1,he,hr,_⟩:=hs
 rw[zW1] at hr
 rw[zX7] at hb
 refine⟨e1,?_⟩
 rw[hb.1,hr.1]
 simpa using he
theorem xU1 {R:RF}{s:Tx}{A:Option Addr}{x:EA}{env:List ScA}{lp:List Tx}{file:Nat}{σ σ':GS Unit}{d':DA}(h:VisD R U0 (fldD s A x) env lp file σ σ' d'):∃ e',VisE R U0 x env lp file σ σ' e':=by
 unfold fldD at h
 rw[VisD] at h
 obtain⟨σ1,subs',body',As',cs',Ab',cb',At',ct',Al',cl',hs,hb,_⟩:=h
 rw[zW1] at hs
 obtain⟨σ2,e1,r1,he,hr,_⟩:=hs
 rw[zW1] at hr
 rw[zX7] at hb
 refine⟨e1,?_⟩
 rw[hb.1,hr.1]
 simpa using he
theorem vis_list {R:RF}{A2 A:Option Addr}{env:List ScA}{lp:List Tx}{file:Nat}{σ σ':GS Unit}{e':EA}(h:VisE R U0 (zH3 A2 A) env lp file σ σ' e')(hu:∀ o∈σ.ρ.objs,o.used=true):∀ o∈σ'.ρ.objs,o.used=true:=by
 unfold zH3 zK4 at h
 rw[VisE] at h
 rcases h with ⟨h,_⟩ | ⟨_,σ1,subs',σ2,env2,decls',As',cs',Ad',cd',At',ct',hs,hd,hds,_⟩
 ·exact absurd h (by decide)
 rw[zX7] at hds
 rcases hd with ⟨h,_⟩ | ⟨_,h2,_⟩
 ·exact absurd h (by decide)
 rw[hds.1,h2]
 rw[zW1] at hs
 obtain⟨σ3,e3,r3,he,hr,_⟩:=hs
 rw[zW1] at hr
 obtain⟨σ4,e4,r4,hx,hn,_⟩:=hr
 rw[zW1] at hn
 rw[hn.1,yG6 hx]
 refine zA0 ?_
 rw[VisE] at he
 rcases he with ⟨h,_⟩ | ⟨_,τ1,tsubs',τ2,tenv2,tdecls',tAs',tcs',tAd',tcd',tAt',tct',ths,thd,thds,_⟩
 ·exact absurd h (by decide)
 rw[zX7] at thds
 rcases thd with ⟨h,_⟩ | ⟨_,h3,_⟩
 ·exact absurd h (by decide)
 rw[thds.1,h3]
 rw[zW1] at ths
 obtain⟨τ3,f3,q3,ha,hk,_⟩:=ths
 rw[zW1] at hk
 obtain⟨τ4,f4,q4,hb,hm,_⟩:=hk
 rw[zW1] at hm
 rw[hm.1,yG6 hb]
 refine zA0 ?_
 rw[yG6 ha]
 exact zA0 hu
theorem ex1_used {R:RF}{σ0 σ:GS Unit}{env:List ScA}{rs:List (List DA)}{A' A Aa Ab Ac A2 A1:Option Addr}{c:Nat}(hR:Root (pkA A' A c (ex1 Aa Ab Ac A2 A1)) R σ0 env)(hV:zO2 R U0 env 0 (pkA A' A c (ex1 Aa Ab Ac A2 A1)).files σ0 σ rs):∀ o∈σ.ρ.objs,o.used=true:=by
 obtain⟨bF,bL,hev⟩:=hR.ev
 have h2:σ0.ρ.objs.map (fun o=>(o.file,o.d))=[(0,letD [108] Aa (numE 10000))]:=hR.o2
 obtain⟨o,ho⟩:∃ o,σ0.ρ.objs=[o]:=List.length_eq_one_iff.1 (by simpa using congrArg List.length h2)
 obtain⟨σ1,d1,r1,h3,h4,_⟩:=hV
 rw[h4.1]
 have h5:zX7 R U0 [letD [108] Aa (numE 10000),fldD [97] Ab (nmE [108] 1),fldD [98] Ac (zH3 A2 A1)] env [] 0 σ0 σ1 d1:=h3
 rw[zX7] at h5
 obtain⟨τ1,q1,s1,g1,h5,_⟩:=h5
 rw[zX7] at h5
 obtain⟨τ2,q2,s2,g2,h5,_⟩:=h5
 rw[zX7] at h5
 obtain⟨τ3,q3,s3,g3,h5,_⟩:=h5
 rw[zX7] at h5
 rw[h5.1]
 obtain⟨_,k1⟩:=vis_let g1
 obtain⟨_,k2⟩:=xU1 g2
 obtain⟨_,k3⟩:=xU1 g3
 refine vis_list k3 ?_
 rw[yG6 k2,vis_num k1]
 have hf:(zW6 R.imps env [] 0 [108]).2.2=some o.blk:=by
  rw[hev,ho]
  rfl
 intro x hx
 have hx':x∈(zU5 0 [108] (zW6 R.imps env [] 0 [108]) σ0.ρ).objs:=hx
 unfold zU5 at hx'
 rw[hf] at hx'
 simp only[ho,List.map_cons,List.map_nil,List.mem_singleton] at hx'
 rw[hx']
 unfold zR2
 rw[if_pos rfl]
theorem rz2 (N:Nat):rzP N P2.files=none:=by
 have H:∀ n,rzL [[]] n [plE (nmE [97] 0)] 0 [zG9 P2.files]=none∧rzL [[]] n [plE (nmE [98] 0)] 0 [zG9 P2.files]=none:=by
  intro n
  induction n with
  | zero=>exact⟨rfl,rfl⟩
  | succ n ih=>
    constructor
    ·show (rzL [[]] n [plE (nmE [98] 0)] 0 [zG9 P2.files]).map _=none
     rw[ih.2]
     rfl
    ·show (rzL [[]] n [plE (nmE [97] 0)] 0 [zG9 P2.files]).map _=none
     rw[ih.1]
     rfl
 have he:rzE (rzL [[]] N) [[]] (plE (nmE [98] 0)) [zG9 P2.files] [] 0=none:=by
  show (rzL [[]] N [plE (nmE [97] 0)] 0 [zG9 P2.files]).map _=none
  rw[(H N).1]
  rfl
 cases hr:rzP N P2.files with
 | none=>rfl
 | some r=>
   exfalso
   obtain⟨p1,q1,h1,_,_⟩:=zX0.1 hr
   have h1':rzDs (rzL [[]] N) [[]] (plDs (ex2 none none)) [zG9 P2.files] [] 0=some p1:=h1
   unfold ex2 at h1'
   rw[plDs,rzDs] at h1'
   obtain⟨p2,q2,h2,_,_⟩:=zX0.1 h1'
   unfold letD at h2
   rw[plD,rzD,plEs,rzEs] at h2
   obtain⟨p3,q3,h3,_,_⟩:=zX0.1 h2
   obtain⟨p4,q4,h4,_,_⟩:=zX0.1 h3
   have h5:rzE (rzL [[]] N) [[]] (plE (nmE [98] 0)) [zG9 P2.files] [] 0=some p4:=h4
   rw[he] at h5
   cases h5
end Go.Proofs.YtdgehhgjgifikaaGreatDoor
