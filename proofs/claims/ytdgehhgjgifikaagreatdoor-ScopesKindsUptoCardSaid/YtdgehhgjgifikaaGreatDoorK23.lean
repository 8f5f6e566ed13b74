/- What the claim needs of:ZL ZM TC Shelf3 ZN ZO. -/
import Derived.Test.YtdgehhgjgifikaaGreatDoorK22
import Derived.Laws.EntriesVeiled
import Derived.Test.YtdgehhgjgifikaaGreatDoorK9
import Derived.Shelf.SlIter.Nil
import Derived.Shelf.SortM.Plain
import Derived.Shelf.SortM.SortNone
import Derived.Ground.GgzProg
import Derived.Ground.SlgmProg
import Derived.Test.YtdgehhgjgifikaaGreatDoorProg
import Derived.Shelf.SlMaps.Clone
import Derived.Sort.KeysCollected
import Derived.Sort.Walk0
namespace Go.Proofs.YtdgehhgjgifikaaGreatDoor
open Go.RowKit Go.Sort Go.Shelf
theorem xW6 (l:List Us):(stU l).length=l.length:=by
 rw[stU_eq];have:=(yR6 (lt:=ltOf ucmp) l []).length_eq;simpa[stF] using this
theorem Btw.visit {w1 wr wS w3:World}{p:PA}{s bx i:Nat}{R:RF}{u f:Value}{env:List ScA}{σi:GS Unit}{Imi Im':Nat→Prop}{outv:Value}{outl:List Us}{σ':GS (Value × List Us)}{l':List DA}{fa:FA}
  (hB:Btw w1 p s (R.with_ u) env σi Imi wr)(hO:OutU w1 (R.with_ u) outv outl σi Imi wr)(hkS:Kp (fun b=>b=R.r) wr wS)(hbx:bx=wr.heap.size)(_hbS:bx < wS.heap.size)
  (_hV:zX6 (R.with_ f) (UU bx) fa.decls env [] i (σi.put (Value.slice none 0 0,[])) σ' l'){s':Nat}(hS:St (R.with_ f) (cloU bx) 1099511627776 s' σ' Im' w3)(hSt:St (R.with_ f) (cloU bx) 1099511627776 s (σi.put (Value.slice none 0 0,[])) Imi wS)(hQ:Sp (zn (R.with_ f) (cloU bx) (σi.put (Value.slice none 0 0,[])) Imi) wS (zn (R.with_ f) (cloU bx) σ' Im') w3)(hG:Gr wS (σi.put (Value.slice none 0 0,[])) σ') :
  Btw w1 p s' (R.with_ f) env σ'.bare Im' w3∧OutU w1 (R.with_ f) outv outl σ'.bare Im' w3∧(∀ b,outv.ownBlock=some b→¬ (cloU bx).M σ'.x b)∧∀ b,(cloU bx).M σ'.x b→Mine (zn (R.with_ f) clo0 σ'.bare Im') w3 b∧w1.heap.size≤b:=by
 have hN:∀ b,Imi b→¬ (zn (R.with_ f) (cloU bx) (σi.put (Value.slice none 0 0,[])) Imi).Mut b:=fun b hb hm=>(hSt.zo.mu b hm).2 hb;have hrN:∀ b,Imi b→¬ b=R.r:=fun b hb e=>(hB.st.zo.mu b (.inl e)).2 hb;have hol:Below w1.heap.size w1 w3:=(hB.lo.trans (hkS.toBelow hB.lo.size fun b hb e=>hrN b (hB.old b hb) e)).trans (hQ.kp.toBelow (Nat.le_trans hB.lo.size hkS.size) fun b hb hm=>hN b (hB.old b hb) hm);have hold:∀ b,b < w1.heap.size→Im' b:=fun b hb=>hQ.im b (hB.old b hb);have hmine:∀ b,outv.ownBlock=some b→Mine (zn (R.with_ f) (cloU bx) (σi.put (Value.slice none 0 0,[])) Imi) wS b:=fun b hb=>by
  obtain⟨⟨h1,h2,h3⟩,_⟩:=hO.ma b hb;refine⟨Nat.lt_of_lt_of_le h1 hkS.size,?_,h3⟩;rintro(e | e | e | e | e)
  ·exact h2 (.inl e)
  ·exact h2 (.inr (.inl e))
  ·exact h2 (.inr (.inr (.inl e)))
  ·exact h2 (.inr (.inr (.inr (.inl e))))
  ·rcases e with e | e
   ·omega
   ·cases e
 have hp:=(hB.pk.kept hkS hrN (fun _ h=>h)).kept hQ.kp hN hQ.im;refine⟨⟨hS.bare,⟨hp.len,hp.sl,hp.ds,hp.ts⟩,(hB.en.kept hkS hrN (fun _ h=>h)).kept hQ.kp hN hQ.im,?_,hold,hB.nu,hol⟩,⟨zE9 (zE9 hO.ac hkS fun b hb e=>(hO.ma b hb).1.2.1 (.inl e)) hQ.kp fun b hb=>(hmine b hb).2.1,fun b hb=>⟨(hQ.own (hmine b hb)).bare,(hO.ma b hb).2⟩⟩,fun b hb hm=>(hQ.own (hmine b hb)).2.1 (.inr (.inr (.inr (.inr hm)))),fun b hb=>⟨hS.loose hb,?_⟩⟩
 ·have h1:EnvK (σi.put (Value.slice none 0 0,([]:List Us))).ρ.objs env:=hB.kn;exact h1.gr hG
 ·rcases Nat.lt_or_ge b w1.heap.size with h1 | h1
  ·exact absurd (hold b h1) (hS.loose hb).2.2
  ·exact h1
set_option maxRecDepth 100000 in
set_option maxHeartbeats 8000000 in
theorem yG4 (rx:Tx→Bool)(p:PA)(w:World)(hP:PkL w p)(hR:∀ f∈p.files,PatDs (RxOk rx) (plDs f.decls))(hG:Glob w)(hs:(∀ f∈p.files,errF rx (plF f)=0)→wF p.files+((p.files.map fun f=>vDs f.decls).sum+(p.files.map fun f=>vDs f.decls).sum)≤1099511627776)
  (hu:∀ f∈p.files,∀ im env lp i,(uDs im (plDs f.decls) env lp i).length≤1048576) :
  Calls Tryz.prog 14 #[.agg #[.string ⟨p.path.toArray⟩,.slice p.A p.files.length p.c]] w (zL4 (zT0 rx (plP p)).1 (zT0 rx (plP p)).2 w):=by
 have hbw:=(Below.refl w.heap.size w).alloc qJ (.cells #[.string ⟨p.path.toArray⟩,.slice p.A p.files.length p.c] 24);have HB0:=qK (Blk.new w 24 #[.string ⟨p.path.toArray⟩,.slice p.A p.files.length p.c]);have HW:=qK hbw;have hnf:=hP.nf;have cL:=qK (yS6 rx p ((p.files.map fun f=>vDs f.decls).sum) (w.alloc (.cells #[.string ⟨p.path.toArray⟩,.slice p.A p.files.length p.c] 24)) (hP.keep hbw) hR (hG.keep hbw) hs);have HU:=qK hu;clear hP hR hG hs hbw hu;go_enter Tryz.func14,Tryz.ntmps14
 go_upto_region 1 with fail
 generalize w.alloc (.cells #[.string ⟨p.path.toArray⟩,.slice p.A p.files.length p.c] 24)=w1 at HB0 HW cL ⊢;have b0:=HB0.out.cell 0;have b1:=HB0.out.cell 1;go_wp2_with fail
 refine cL.out.mono ?_;rintro e w2 ⟨hb2,h⟩;clear b0 b1 cL;have HB2:=qK hb2;rcases h with ⟨h0,rfl⟩ | ⟨h0,hok,R,σ0,σ,env,rs,hRt,hV,h⟩
 ·have HE:=qK (zG4 h0);have H0:=qK h0;generalize zV6 rx p=ee at h0 HE H0 ⊢;have HR:=qK (show zL4 (zT0 rx (plP p)).1 (zT0 rx (plP p)).2 w (.returned (.tuple #[.slice none 0 0,.int .i64 ee])) w2 from by
   have e:zT0 rx (plP p)=([],ee):=by unfold zT0;rw[if_pos (by rw[HE.out];exact H0.out),HE.out]
   rw[e];exact⟨none,0,rfl,.inl rfl,Nat.zero_le _,HW.out.trans (HB2.out.mono HW.out.size),fun a h _=>absurd rfl h⟩)
  go_wp2;refine bodyPost_ret (v:=.tuple #[.slice none 0 0,.int .i64 ee]) (by simp[results,Tryz.results14,go_sem]) rfl HR.out
 ·have ht:=zP5 hRt hV;have hE:=zM0 h0;rw[←ht] at hE;rcases h with ⟨h6,rfl⟩ | ⟨h6,rfl,Im,hO⟩
  ·rw[h6,if_pos rfl] at hE;have HR:=qK (show zL4 (zT0 rx (plP p)).1 (zT0 rx (plP p)).2 w (.returned (.tuple #[.slice none 0 0,.int .i64 6])) w2 from by
    have e:zT0 rx (plP p)=([],6):=by unfold zT0;rw[if_pos (by rw[hE];decide),hE]
    rw[e];exact⟨none,0,rfl,.inl rfl,Nat.zero_le _,HW.out.trans (HB2.out.mono HW.out.size),fun a h _=>absurd rfl h⟩)
   clear h0 hok hRt hV ht hE h6 hb2;go_wp2;refine bodyPost_ret (v:=.tuple #[.slice none 0 0,.int .i64 6]) (by simp[results,Tryz.results14,go_sem]) rfl HR.out
  ·rw[h6,if_neg (by decide)] at hE;have HE:=qK (show zT0 rx (plP p)=(usFs (p.files.map plF) 0 (p.files.map plF),0) from by unfold zT0;rw[if_neg (by rw[hE];decide)];rfl);have HRt:=qK hRt;have HBt:=qK (show Btw w1 p ((p.files.map fun f=>vDs f.decls).sum) (R.with_ R.use) env σ Im w2 from hO.btw hb2);have HLv:=qK (yS5 hok);clear h0 hok hRt hV ht hE h6 hO hb2;have b1:=(HB0.out.keep HB2.out).cell 1;go_upto_region 6 with fail
   clear b1;go_loopw [6,20] (fun vv iv wq=>∃ (i:Nat) (u:Value) (σi:GS Unit) (Imi:Nat→Prop) (Ao:Option Addr) (lo co:Nat),i≤p.files.length∧iv=.int .i64 (i:Nat)∧vv=.slice Ao lo co∧Hid (lo=(usFs (p.files.map plF) 0 ((p.files.take i).map plF)).length)∧Hid (lo≤i*1048576)∧Hid (Btw w1 p (((p.files.drop i).map fun f=>vDs f.decls).sum) (R.with_ u) env σi Imi wq)∧Hid (OutU w1 (R.with_ u) (.slice Ao lo co) (usFs (p.files.map plF) 0 ((p.files.take i).map plF)) σi Imi wq)) (fun _ iv _=>p.files.length-(intOf iv).toNat)
   case atStart=>exact⟨0,R.use,σ,Im,none,0,0,Nat.zero_le _,rfl,rfl,qK rfl,qK (Nat.zero_le _),by simpa using HBt,qK OutU.nil_⟩
   case round=>
    obtain⟨i,u,σi,Imi,Ao,lo,co,hi,rfl,rfl,HLo,HLc,Bi,Oi⟩:=hrel;by_cases hlt:i < p.files.length
    ·have hlt':(i:Int) < (p.files.length:Int):=by omega
     have hba:=(Below.refl wr.heap.size wr).alloc qJ (.cells #[.slice none 0 0] 27);have hrb:Blk (wr.alloc (.cells #[.slice none 0 0] 27)) R.r 86 #[.string ⟨R.path.toArray⟩,.slice R.FA R.nF R.cF,.pointer (some ⟨R.root,0,none⟩),.slice R.Ai R.iB.length R.ci,.slice R.Au R.uB.length R.cu,σi.av,.bool σi.ρ.twice,.bool σi.ρ.cyc,u]:=Bi.out.st.rs.rc.keep hba;have r8:=hrb.cell 8;have f8:=hrb.free 8;have HRb:=qK hrb;have HBx:=qK (Blk.new wr 27 #[.slice none 0 0]);clear hba hrb;obtain⟨bx,hbx⟩:∃ bx,bx=wr.heap.size:=⟨_,rfl⟩;have hkS:Kp (fun b=>b=R.r) wr ((wr.alloc (.cells #[.slice none 0 0] 27)).setCell ⟨R.r,8,none⟩ (.func (.func 40) #[] #[.pointer (some ⟨bx,0,none⟩)])):=((Kp.refl (fun b=>b=R.r) wr).alloc _).setCell (p:=⟨R.r,8,none⟩) rfl _;have hrS:Blk ((wr.alloc (.cells #[.slice none 0 0] 27)).setCell ⟨R.r,8,none⟩ (.func (.func 40) #[] #[.pointer (some ⟨bx,0,none⟩)])) R.r 86 #[.string ⟨R.path.toArray⟩,.slice R.FA R.nF R.cF,.pointer (some ⟨R.root,0,none⟩),.slice R.Ai R.iB.length R.ci,.slice R.Au R.uB.length R.cu,σi.av,.bool σi.ρ.twice,.bool σi.ρ.cyc,.func (.func 40) #[] #[.pointer (some ⟨bx,0,none⟩)]]:=by
      simpa using HRb.out.set_ 8 (.func (.func 40) #[] #[.pointer (some ⟨bx,0,none⟩)])
     have hxS:Blk ((wr.alloc (.cells #[.slice none 0 0] 27)).setCell ⟨R.r,8,none⟩ (.func (.func 40) #[] #[.pointer (some ⟨bx,0,none⟩)])) bx 27 #[.slice none 0 0]:=by
      rw[hbx];exact HBx.out.far (fun e=>zQ1 HBx.out HRb.out (by decide) e) _
     have hszS:((wr.alloc (.cells #[.slice none 0 0] 27)).setCell ⟨R.r,8,none⟩ (.func (.func 40) #[] #[.pointer (some ⟨bx,0,none⟩)])).heap.size=wr.heap.size+1:=by simp[World.setCell]
     have HS9:=qK (show _∧_∧_∧_ from⟨hkS,hrS,hxS,hszS⟩);have HBxe:=qK hbx;clear hkS hrS hxS hszS;go_upto_region 10 with fail
     rw[←HBxe.out];clear r8 f8 HRb HBx hbx;generalize (wr.alloc (.cells #[.slice none 0 0] 27)).setCell ⟨R.r,8,none⟩ (.func (.func 40) #[] #[.pointer (some ⟨bx,0,none⟩)])=wS at HS9 ⊢;have hsum:((p.files.drop i).map fun f=>vDs f.decls).sum=((p.files.drop (i+1)).map fun f=>vDs f.decls).sum+vDs p.files[i].decls:=by rw[List.drop_eq_getElem_cons hlt,List.map_cons,List.sum_cons,Nat.add_comm]
     have hrN:∀ b,Imi b→¬ b=R.r:=fun b hb e=>(Bi.out.st.zo.mu b (.inl e)).2 hb;have hT:St (R.with_ (.func (.func 40) #[] #[.pointer (some ⟨bx,0,none⟩)])) (cloU bx) 1099511627776 (((p.files.drop i).map fun f=>vDs f.decls).sum) (σi.put (Value.slice none 0 0,[])) Imi wS:=
      Bi.out.st.swap (C':=cloU bx) (x':=(Value.slice none 0 0,[])) (.func (.func 40) #[] #[.pointer (some ⟨bx,0,none⟩)]) HS9.out.1 HS9.out.2.1 ⟨HS9.out.2.2.1,World.ownsRow_nil _ _ _ _⟩ (fun b hb=>by
       rcases hb with e | e
       ·rw[e,HBxe.out];exact⟨Nat.le_refl _,by rw[HS9.out.2.2.2];omega⟩
       ·cases e) rfl
     have hpk:=Bi.out.pk.kept HS9.out.1 hrN (fun _ h=>h);obtain⟨bF',bL',henv⟩:=HRt.out.ev;have hD:zQ2 (R.with_ (.func (.func 40) #[] #[.pointer (some ⟨bx,0,none⟩)])) (cloU bx) 1099511627776 (UU bx) p.files[i].decls:=zI1 rfl Tryz.call40 cloOkU _;have cF:=qK (yS2 (R:=R.with_ (.func (.func 40) #[] #[.pointer (some ⟨bx,0,none⟩)])) (C:=cloU bx) (U:=UU bx) p.files i hlt hD (σi.put (Value.slice none 0 0,[])) Imi wS (((p.files.drop (i+1)).map fun f=>vDs f.decls).sum) env (by rw[←hsum];exact hT) ⟨hpk.len,hpk.sl,hpk.ds,hpk.ts⟩ (Bi.out.en.kept HS9.out.1 hrN (fun _ h=>h)) Bi.out.kn (by rw[henv];simp) (by have h:=Bi.out.nu;show i < R.uB.length;have h':R.uB.length=p.files.length:=h;omega) (by rw[henv];have h:=HLv.out _ (List.getElem_mem hlt);simp;omega));have HT:=qK hT;clear hsum hrN hT hpk henv hD;go_wp2_with fail
     refine cF.out.mono ?_;rintro e w3 ⟨σ',Im',l',A',c',rfl,hV,hS,hQ,hGr,hSl,hOl⟩;have hus:=(visU (R.with_ (.func (.func 40) #[] #[.pointer (some ⟨bx,0,none⟩)])) bx).2.2.2 _ _ _ _ _ _ _ hV;obtain⟨hsh1,hsh2⟩:=yW7 HRt.out;have him:(R.with_ (.func (.func 40) #[] #[.pointer (some ⟨bx,0,none⟩)])).imps=zM7 (plP p).files:=hsh2;rw[him,hsh1] at hus;obtain⟨hB3,hO3,hne3,hM3⟩:=Btw.visit Bi.out Oi.out HS9.out.1 HBxe.out (by rw[HS9.out.2.2.2,HBxe.out];omega) hV hS HT.out hQ hGr;have hcl:=hS.cl;have HV3:=qK (show σ'.x.2=uDs (zM7 (plP p).files) (plDs p.files[i].decls) [zY5 (plP p).files] [] i from by rw[hus];rfl);have HB3:=qK hB3;have HO3:=qK hO3;have HN3:=qK hne3;have HM3:=qK hM3;have HC3:=qK hcl;clear cF hV hS hQ hGr hSl hOl hus hsh1 hsh2 him hB3 hO3 hne3 hM3 hcl Bi Oi HT HS9;have hul:σ'.x.2.length≤1048576:=by rw[HV3.out];exact HU.out _ (List.getElem_mem hlt) _ _ _ _
     have cS0:=xW5 σ'.x.1 σ'.x.2 w3 HC3.out.2 hul;obtain⟨Av,cv,hav⟩:=zU6 HC3.out.2;have HUl:=qK hul;have HAv:=qK hav;have x0:=HC3.out.1.cell 0;rw[hav] at x0 cS0;have cS:=qK cS0;obtain⟨nl,hnl⟩:∃ nl,σ'.x.2.length=nl:=⟨_,rfl⟩;have HNl:=qK hnl;rw[hnl] at x0 cS;clear hul hav cS0 hnl;go_upto_region 11 with fail
     go_wp2_with fail
     refine cS.out.mono ?_;rintro e w4 ⟨rfl,⟨A2,c2,hv2,hSl⟩,hk4⟩;have hA2:A2=Av:=by
      rw[HNl.out] at hv2;injection hv2 with h1 _ _
      exact h1.symm
     subst hA2;have HSl:=qK hSl;have HB4:=qK (HB3.out.write hk4 fun b hb=>by
      have h:=HM3.out b (.inr (by rw[HAv.out,HNl.out];exact hb));exact⟨h.2,h.1.2.1,h.1.2.2⟩)
     have HO4:=qK (HO3.out.write hk4 fun b hb hn=>HN3.out b hb (.inr (by rw[HAv.out,HNl.out];exact hn)));have hBx:=hk4.blk HC3.out.1 (fun e=>zQ6 HC3.out.2 HC3.out.1 (by decide) bx (by rw[HAv.out,HNl.out];exact e) rfl);have x0:=hBx.cell 0;rw[HAv.out,HNl.out] at x0;clear cS hv2 hSl hk4 hBx HB3 HO3 HN3 HM3 HC3;have hac:=HO4.out.ac;rw[←HLo.out] at hac;have HAc:=qK hac;have HSrc:=qK (show Src w4 5 A2 nl ((stU σ'.x.2).flatMap encU) from by have h:=HSl.out.src yS7;rw[xW6,HNl.out] at h;exact h);have hlc:=HLc.out;have hnl2:nl≤1048576:=by rw[←HNl.out];exact HUl.out
     clear hac;go_wp2_with (at_builtin;refine zT3 _ rfl (.tmp 32) (.tmp 33) 27 rfl 0 52 5 48 elUse _ _ _ rfl HAc.out A2 nl _ _ rfl HSrc.out (by
      intro q hq;obtain⟨y,_,hy⟩:=List.mem_flatMap.1 hq;exact yN6 y q hy) (by simp only[maxLen];omega) qG (Nat.zero_le _) ?_;intro v' w5 hacc' hg' _ _ hob')
     have hg2:w4.grownBy w5 (Value.slice Ao lo co).ownBlock:=hg';have hob2:v'.ownBlock=(Value.slice Ao lo co).ownBlock∨∃ g,v'.ownBlock=some g∧w4.heap.size≤g:=hob';have hk5:Kp (fun b=>(Value.slice Ao lo co).ownBlock=some b) w4 w5:=(Kp.refl _ w4).grown hg2 fun k hk=>.inl hk;have hB5:=HB4.out.write hk5 fun b hb=>⟨(HO4.out.ma b hb).2,(HO4.out.ma b hb).1.2⟩;have hus:usFs (p.files.map plF) 0 ((p.files.take (i+1)).map plF)=usFs (p.files.map plF) 0 ((p.files.take i).map plF)++stU σ'.x.2:=by
      rw[List.take_succ_eq_append_getElem hlt,List.map_append,List.map_cons,List.map_nil,yM3,HV3.out];have e:0+((p.files.take i).map plF).length=i:=by rw[List.length_map,List.length_take];omega
      rw[e];rfl
     have hlen:lo+nl=(usFs (p.files.map plF) 0 ((p.files.take (i+1)).map plF)).length:=by rw[hus,List.length_append,xW6,←HLo.out,HNl.out]
     have hO5:OutU w1 (R.with_ (.func (.func 40) #[] #[.pointer (some ⟨bx,0,none⟩)])) v' (usFs (p.files.map plF) 0 ((p.files.take (i+1)).map plF)) σ'.bare Im' w5:=by
      refine⟨?_,fun b hb=>?_⟩
      ·rw[←hlen,hus,List.flatMap_append];exact hacc'
      ·rcases hob2 with e | ⟨g,e,h2⟩
       ·have h:=HO4.out.ma b (e▸hb);exact⟨h.1.up hk5.size,h.2⟩
       ·rw[e] at hb;injection hb with hb
        subst hb;have hlt5:g < w5.heap.size:=by
         rcases hacc' with h3 | ⟨_,g2,off,h3,h4,_⟩
         ·exact(h3.lt g e).2
         ·rw[h3] at e;injection e with e
          exact e▸h4
        exact⟨HB4.out.st.zo.new_ h2 hlt5,Nat.le_trans HB4.out.lo.size h2⟩
     obtain⟨A5,c5,hv5⟩:=hacc'.shape;subst hv5;refine⟨⟨i+1,(.func (.func 40) #[] #[.pointer (some ⟨bx,0,none⟩)]),σ'.bare,Im',A5,lo+nl,c5,by omega,by go_num,rfl,qK hlen,qK qG,qK hB5,qK hO5⟩,by simp[intOf];omega⟩
    ·obtain rfl:i=p.files.length:=by omega
     have HR:=qK (show zL4 (zT0 rx (plP p)).1 (zT0 rx (plP p)).2 w (.returned (.tuple #[.slice Ao lo co,.int .i64 0])) wr from by
      rw[HE.out];have hlo:=HLo.out;have hO:=Oi.out;rw[List.take_length] at hlo hO;obtain⟨h1,h2⟩:=zG1 (A:=Ao) (m:=lo) (c:=co) yS7 (by have h:=hO.ac;rw[←hlo] at h;exact h) (by decide);refine⟨Ao,co,by rw[hlo],h2,by have:=HLc.out;rw[←hlo];omega,HW.out.trans (Bi.out.lo.mono HW.out.size),fun a hne ha=>?_⟩;subst ha;exact Nat.le_trans HW.out.size (hO.ma a.block rfl).2)
     go_wp2;refine bodyPost_ret (v:=.tuple #[.slice Ao lo co,.int .i64 0]) (by simp[results,Tryz.results14,go_sem]) rfl HR.out
set_option maxRecDepth 100000 in
set_option maxHeartbeats 4000000 in
theorem yQ0 (rx:Tx→Bool)(p:PA)(w:World)(hP:PkL w p)(hR:∀ f∈p.files,PatDs (RxOk rx) (plDs f.decls))(hG:Glob w)(hs:(∀ f∈p.files,errF rx (plF f)=0)→wF p.files+((p.files.map fun f=>vDs f.decls).sum+(p.files.map fun f=>vDs f.decls).sum)≤1099511627776)
  (hu:∀ f∈p.files,∀ im env lp i,(uDs im (plDs f.decls) env lp i).length≤1048576) :
  Calls Tryz.prog 16 #[.agg #[.string ⟨p.path.toArray⟩,.slice p.A p.files.length p.c]] w (zL4 (zD0 rx (plP p)).1 (zD0 rx (plP p)).2 w):=by
 have hbw:=(Below.refl w.heap.size w).alloc qJ (.cells #[.string ⟨p.path.toArray⟩,.slice p.A p.files.length p.c] 24);have HB0:=qK (Blk.new w 24 #[.string ⟨p.path.toArray⟩,.slice p.A p.files.length p.c]);have HW:=qK hbw;have cU:=qK (yG4 rx p (w.alloc (.cells #[.string ⟨p.path.toArray⟩,.slice p.A p.files.length p.c] 24)) (hP.keep hbw) hR (hG.keep hbw) hs hu);have HE:=qK (show zD0 rx (plP p)=((zT0 rx (plP p)).1.filter fun u=>decide (u.kind=0),(zT0 rx (plP p)).2) from rfl);clear hP hR hG hs hbw hu;generalize zD0 rx (plP p)=U at HE ⊢;generalize zT0 rx (plP p)=V at HE cU;obtain⟨us,err⟩:=V;have hU:=HE.out;subst hU;clear HE;dsimp only at cU ⊢;go_enter Tryz.func16,Tryz.ntmps16
 go_upto_region 1 with fail
 generalize w.alloc (.cells #[.string ⟨p.path.toArray⟩,.slice p.A p.files.length p.c] 24)=w1 at HB0 HW cU ⊢;have b0:=HB0.out.cell 0;have b1:=HB0.out.cell 1;go_wp2_with fail
 refine cU.out.mono ?_;rintro e w2 ⟨A,c,rfl,hSl,hul,hb2,hnew⟩;clear b0 b1 cU;have HSl:=qK hSl;have HW2:=qK (HW.out.trans (hb2.mono HW.out.size));clear hSl hb2 hnew;go_upto_region 4 with fail
 go_loopw [6,16] (fun vv iv wq=>∃ (i:Nat) (Ao:Option Addr) (lo co:Nat),i≤us.length∧iv=.int .i64 (i:Nat)∧vv=.slice Ao lo co∧Hid (lo=((us.take i).filter fun u=>decide (u.kind=0)).length∧lo≤i)∧Hid (wq.ownsRow w2.heap.size 52 5 (.slice Ao lo co) lo (((us.take i).filter fun u=>decide (u.kind=0)).flatMap encU))∧Hid (Below w2.heap.size w2 wq)) (fun _ iv _=>us.length-(intOf iv).toNat)
 case atStart=>exact⟨0,none,0,0,Nat.zero_le _,rfl,rfl,qK ⟨rfl,Nat.le_refl _⟩,qK (World.ownsRow_nil _ _ _ _),qK qH⟩
 case round=>
  obtain⟨i,Ao,lo,co,hi,rfl,rfl,HLo,HRow,Wi⟩:=hrel;by_cases hlt:i < us.length
  ·have hlt':(i:Int) < (us.length:Int):=by omega
   have HTk:=qK (List.take_succ_eq_append_getElem hlt);obtain⟨bb,off,hA,hbW,hc⟩:=HSl.out.at_ hlt;generalize us[i]=x at hc HTk;obtain⟨xf,xp,xn,xk,xd⟩:=x;have c0:=zY1 Wi.out (hc 0 _ rfl);have c1:=zY1 Wi.out (hc 1 _ rfl);have c2:=zY1 Wi.out (hc 2 _ rfl);have c3:=zY1 Wi.out (hc 3 _ rfl);have c4:=zY1 Wi.out (hc 4 _ rfl);dsimp only[Nat.add_zero] at c0 c1 c2 c3 c4;have hba:=(Below.refl wr.heap.size wr).alloc qJ (.cells #[.int .i64 xf,.int .i64 xp,.string ⟨xn.toArray⟩,.int .i64 xk,.int .i64 xd] 52);have Wb:=qK (Wi.out.trans (hba.mono Wi.out.size));have Rb:=qK (World.ownsRow.alloc HRow.out (.cells #[.int .i64 xf,.int .i64 xp,.string ⟨xn.toArray⟩,.int .i64 xk,.int .i64 xd] 52));have Bb:=qK (Blk.new wr 52 #[.int .i64 xf,.int .i64 xp,.string ⟨xn.toArray⟩,.int .i64 xk,.int .i64 xd]);go_upto_region 6 with fail
   clear c0 c1 c2 c3 c4 hA hbW hba hc HRow;generalize wr.alloc (.cells #[.int .i64 xf,.int .i64 xp,.string ⟨xn.toArray⟩,.int .i64 xk,.int .i64 xd] 52)=wb at Wb Rb Bb ⊢;obtain⟨u0,u1,u2,u3,u4⟩:=useC Bb.out;have hlo:=HLo.out.2;have hbz:=Wb.out.size;cases hk:(xk == 0)
   ·have HK:=qK (show (us.take (i+1)).filter (fun u=>decide (u.kind=0))=(us.take i).filter fun u=>decide (u.kind=0) from by
     rw[HTk.out,List.filter_append,List.filter_cons_of_neg (by simpa using hk),List.filter_nil,List.append_nil])
    go_wp2;go_roundw
    case rel=>exact⟨i+1,Ao,lo,co,by omega,by go_num,rfl,qK ⟨by rw[HK.out];exact HLo.out.1,by omega⟩,qK (by rw[HK.out];exact Rb.out),Wb⟩
    case measure=>simp[intOf];omega
   ·have HK:=qK (show (us.take (i+1)).filter (fun u=>decide (u.kind=0))=((us.take i).filter fun u=>decide (u.kind=0))++ [⟨xf,xp,xn,xk,xd⟩] from by
     rw[HTk.out,List.filter_append,List.filter_cons_of_pos (by simpa using hk),List.filter_nil])
    go_wp2_with (at_builtin;refine zN5 rfl (.tmp 23) (.tmp 25) 27 rfl w2.heap.size 52 5 48 elUse _ _ _ rfl (World.ownsRow.alloc Rb.out _) _ 1 _ _ rfl (by decide) (Src.lit _ 5 _ _ 1 rfl) (by simp[Value.oneCell']) (by simp only[maxLen];omega) qG (by simp;omega) ?_;intro v' w5 hown' hg' hb' hob')
    obtain⟨A5,c5,hv5⟩:=zU6 hown';subst hv5;have W5:=qK (Wb.out.trans (((Below.refl wb.heap.size wb).alloc qJ _ |>.mono Wb.out.size).trans hb'));refine⟨⟨i+1,A5,lo+1,c5,by omega,by go_num,rfl,qK ⟨by rw[HK.out,List.length_append,←HLo.out.1];rfl,by omega⟩,qK (by rw[HK.out,List.flatMap_append];simpa[encU] using hown'),W5⟩,by simp[intOf];omega⟩
  ·obtain rfl:i=us.length:=by omega
   have HR:=qK (show zL4 (us.filter fun u=>decide (u.kind=0)) err w (.returned (.tuple #[.slice Ao lo co,.int .i64 err])) wr from by
    have h1:=HLo.out.1;have h2:=HRow.out;rw[List.take_length] at h1 h2;obtain⟨_,h3⟩:=zG1 (A:=Ao) (m:=lo) (c:=co) yS7 (.inl h2) (by decide);refine⟨Ao,co,by rw[h1],h3,Nat.le_trans (List.length_filter_le _ _) hul,HW2.out.trans (Wi.out.mono HW2.out.size),fun a _ ha=>?_⟩;subst ha;exact Nat.le_trans HW2.out.size (h2.lt a.block rfl).1)
   go_wp2;refine bodyPost_ret (v:=.tuple #[.slice Ao lo co,.int .i64 err]) (by simp[results,Tryz.results16,go_sem]) rfl HR.out
def insU (l:List Tx)(x:Tx):List Tx:=
 if (l.dropWhile fun y=>Op.bytesLess y x).head? = some x then l else l.takeWhile (fun y=>Op.bytesLess y x)++x ::l.dropWhile fun y=>Op.bytesLess y x
structure Df where
 file:Int
 pos:Int
 name:Tx
 kind:Int
def usedI (l:List Fd)(i:Nat)(name:Tx):Bool:=l.any fun u=>decide (u.1.kind=4)&&decide (u.1.file=(i:Int))&&decide (u.1.name=name)
def zO3 (k:Int):Tx:=if k=0 then zT7 else if k=1 then zM8 else if k=2 then wLet else if k=3 then zC3 else zT6
end Go.Proofs.YtdgehhgjgifikaaGreatDoor
namespace Go.Proofs
open Go.Shelf
def Tryz.keysB_ren:Go.Shelf.Ren:=⟨fun | 7=>56 | 10=>89 | n=>n,fun | 23=>103 | 26=>9 | 3=>4 | 28=>125 | 0=>0 | 27=>124 | 33=>153 | 4=>4 | n=>n,fun | n=>n⟩
theorem Tryz.keysB:Go.Proofs.SlLaysZ.n7 Tryz.prog Tryz.keysB_ren:={
 mixed:=by kernel_rfl
 f7:=⟨Tryz.f56.name,by decide,Tryz.func56.trans (congrArg some qF)⟩
 f10:=⟨Tryz.f89.name,by decide,Tryz.func89.trans (congrArg some qF)⟩
 t0:=Tryz.underlying0
 a0:=Tryz.isAgg0
 z0:=Tryz.sizeOf0
 v0:=Tryz.zeroValue0
 t4:=Tryz.underlying4
 a4:=Tryz.isAgg4
 z4:=Tryz.sizeOf4
 v4:=Tryz.zeroValue4
 t23:=Tryz.underlying103
 a23:=Tryz.isAgg103
 z23:=Tryz.sizeOf103
 v23:=Tryz.zeroValue103
 t26:=Tryz.underlying9
 a26:=Tryz.isAgg9
 z26:=Tryz.sizeOf9
 v26:=Tryz.zeroValue9
 t27:=Tryz.underlying124
 a27:=Tryz.isAgg124
 z27:=Tryz.sizeOf124
 v27:=Tryz.zeroValue124
 t28:=Tryz.underlying125
 a28:=Tryz.isAgg125
 z28:=Tryz.sizeOf125
 v28:=Tryz.zeroValue125
 t33:=Tryz.underlying153
 a33:=Tryz.isAgg153
 z33:=Tryz.sizeOf153
 v33:=Tryz.zeroValue153}
def Tryz.sortedB_ren:Go.Shelf.Ren:=⟨fun | 6=>55 | 8=>87 | 9=>88 | 11=>127 | 13=>82 | 12=>128 | 23=>124 | 24=>125 | 14=>155 | 15=>156 | 16=>157 | 17=>158 | 18=>159 | 19=>160 | 20=>161 | 21=>162 | 22=>163 | 25=>178 | 26=>151 | 27=>152 | 28=>179 | 29=>180 | 30=>83 | 31=>193 | n=>n,fun | 26=>9 | 28=>125 | 24=>44 | 0=>0 | 3=>3 | 37=>152 | 48=>192 | 50=>194 | 4=>4 | 40=>185 | 39=>184 | 45=>189 | 5=>5 | 9=>9 | 51=>215 | 55=>219 | 57=>243 | 58=>244 | 33=>153 | n=>n,fun | n=>n⟩
theorem Tryz.sortedB:Go.Proofs.SlLaysZ.n6 Tryz.prog Tryz.sortedB_ren:={
 mixed:=by kernel_rfl
 f6:=⟨Tryz.f55.name,by decide,Tryz.func55.trans (congrArg some qF)⟩
 f8:=⟨Tryz.f87.name,by decide,Tryz.func87.trans (congrArg some qF)⟩
 f11:=⟨Tryz.f127.name,by decide,Tryz.func127.trans (congrArg some qF)⟩
 t0:=Tryz.underlying0
 a0:=Tryz.isAgg0
 z0:=Tryz.sizeOf0
 v0:=Tryz.zeroValue0
 t24:=Tryz.underlying44
 a24:=Tryz.isAgg44
 z24:=Tryz.sizeOf44
 v24:=Tryz.zeroValue44
 t26:=Tryz.underlying9
 a26:=Tryz.isAgg9
 z26:=Tryz.sizeOf9
 v26:=Tryz.zeroValue9
 t28:=Tryz.underlying125
 a28:=Tryz.isAgg125
 z28:=Tryz.sizeOf125
 v28:=Tryz.zeroValue125
 i26:=by kernel_rfl}
def Tryz.sortB_ren:Go.Shelf.Ren:=⟨fun | 6=>88 | 8=>82 | 9=>128 | 19=>124 | 20=>125 | 21=>155 | 22=>156 | 23=>157 | 24=>158 | 25=>159 | 26=>160 | 27=>161 | 28=>162 | 29=>163 | 36=>178 | 31=>151 | 32=>152 | 37=>179 | 38=>180 | 39=>83 | 41=>193 | n=>n,fun | 27=>44 | 29=>9 | 3=>3 | 32=>152 | 26=>44 | 0=>0 | 44=>192 | 46=>194 | 4=>4 | 36=>185 | 35=>184 | 41=>189 | 5=>5 | 9=>9 | 53=>215 | 57=>219 | 63=>243 | 64=>244 | n=>n,fun | n=>n⟩
theorem Tryz.sortB:Go.Proofs.SlLaysM.n6 Tryz.prog Tryz.sortB_ren:={
 mixed:=by kernel_rfl
 f6:=⟨Tryz.f88.name,by decide,Tryz.func88.trans (congrArg some qF)⟩
 f8:=Tryz.func82.trans (congrArg some qF)
 f9:=⟨Tryz.f128.name,by decide,Tryz.func128.trans (congrArg some qF)⟩
 f19:=Tryz.func124.trans (congrArg some qF)
 f20:=Tryz.func125.trans (congrArg some qF)
 f21:=⟨Tryz.f155.name,by decide,Tryz.func155.trans (congrArg some qF)⟩
 f22:=⟨Tryz.f156.name,by decide,Tryz.func156.trans (congrArg some qF)⟩
 f23:=⟨Tryz.f157.name,by decide,Tryz.func157.trans (congrArg some qF)⟩
 f24:=⟨Tryz.f158.name,by decide,Tryz.func158.trans (congrArg some qF)⟩
 f25:=⟨Tryz.f159.name,by decide,Tryz.func159.trans (congrArg some qF)⟩
 f26:=⟨Tryz.f160.name,by decide,Tryz.func160.trans (congrArg some qF)⟩
 f27:=⟨Tryz.f161.name,by decide,Tryz.func161.trans (congrArg some qF)⟩
 f28:=⟨Tryz.f162.name,by decide,Tryz.func162.trans (congrArg some qF)⟩
 f29:=⟨Tryz.f163.name,by decide,Tryz.func163.trans (congrArg some qF)⟩
 f31:=Tryz.func151.trans (congrArg some qF)
 f32:=Tryz.func152.trans (congrArg some qF)
 f36:=⟨Tryz.f178.name,by decide,Tryz.func178.trans (congrArg some qF)⟩
 f37:=⟨Tryz.f179.name,by decide,Tryz.func179.trans (congrArg some qF)⟩
 f38:=⟨Tryz.f180.name,by decide,Tryz.func180.trans (congrArg some qF)⟩
 f39:=⟨Tryz.f83.name,by decide,Tryz.func83.trans (congrArg some qF)⟩
 f41:=⟨Tryz.f193.name,by decide,Tryz.func193.trans (congrArg some qF)⟩
 t0:=Tryz.underlying0
 a0:=Tryz.isAgg0
 z0:=Tryz.sizeOf0
 v0:=Tryz.zeroValue0
 t3:=Tryz.underlying3
 a3:=Tryz.isAgg3
 z3:=Tryz.sizeOf3
 v3:=Tryz.zeroValue3
 t4:=Tryz.underlying4
 a4:=Tryz.isAgg4
 z4:=Tryz.sizeOf4
 v4:=Tryz.zeroValue4
 t5:=Tryz.underlying5
 a5:=Tryz.isAgg5
 z5:=Tryz.sizeOf5
 v5:=Tryz.zeroValue5
 t9:=Tryz.underlying9
 a9:=Tryz.isAgg9
 z9:=Tryz.sizeOf9
 v9:=Tryz.zeroValue9
 t26:=Tryz.underlying44
 a26:=Tryz.isAgg44
 z26:=Tryz.sizeOf44
 v26:=Tryz.zeroValue44
 t27:=Tryz.underlying44
 a27:=Tryz.isAgg44
 z27:=Tryz.sizeOf44
 v27:=Tryz.zeroValue44
 t29:=Tryz.underlying9
 a29:=Tryz.isAgg9
 z29:=Tryz.sizeOf9
 v29:=Tryz.zeroValue9
 t32:=Tryz.underlying152
 a32:=Tryz.isAgg152
 z32:=Tryz.sizeOf152
 v32:=Tryz.zeroValue152
 t35:=Tryz.underlying184
 a35:=Tryz.isAgg184
 z35:=Tryz.sizeOf184
 v35:=Tryz.zeroValue184
 t36:=Tryz.underlying185
 a36:=Tryz.isAgg185
 z36:=Tryz.sizeOf185
 v36:=Tryz.zeroValue185
 t41:=Tryz.underlying189
 a41:=Tryz.isAgg189
 z41:=Tryz.sizeOf189
 v41:=Tryz.zeroValue189
 t44:=Tryz.underlying192
 a44:=Tryz.isAgg192
 z44:=Tryz.sizeOf192
 v44:=Tryz.zeroValue192
 t46:=Tryz.underlying194
 a46:=Tryz.isAgg194
 z46:=Tryz.sizeOf194
 v46:=Tryz.zeroValue194
 t53:=Tryz.underlying215
 a53:=Tryz.isAgg215
 z53:=Tryz.sizeOf215
 v53:=Tryz.zeroValue215
 t57:=Tryz.underlying219
 a57:=Tryz.isAgg219
 z57:=Tryz.sizeOf219
 v57:=Tryz.zeroValue219
 t63:=Tryz.underlying243
 a63:=Tryz.isAgg243
 z63:=Tryz.sizeOf243
 v63:=Tryz.zeroValue243
 t64:=Tryz.underlying244
 a64:=Tryz.isAgg244
 z64:=Tryz.sizeOf244
 v64:=Tryz.zeroValue244}
end Go.Proofs
namespace Go.Proofs.YtdgehhgjgifikaaGreatDoor
open Go.RowKit Go.Maps Go.Sort Go.Shelf
theorem asc_uniq {l m:List Tx}(hl:l.Pairwise (· < ·))(hm:m.Pairwise (· < ·))(h:∀ x,x∈l↔x∈m):l=m:=by
 have nd:∀ {l:List Tx},l.Pairwise (· < ·)→l.Nodup:=fun h=>h.imp fun {a b} hab e=>by subst e;exact List.lt_irrefl _ hab
 exact List.Perm.eq_of_pairwise (le:=(· < ·)) (fun a b _ _ h1 h2=>absurd h2 (List.lt_asymm h1)) hl hm ((List.perm_ext_iff_of_nodup (nd hl) (nd hm)).2 h)
theorem xW7 {l:List Tx}(x:Tx)(hl:l.Pairwise (· < ·)):(insU l x).Pairwise (· < ·)∧∀ y,y∈insU l x↔y=x∨y∈l:=by
 unfold insU;have hb:(fun y:Tx=>Op.bytesLess y x)=fun y=>decide (y < x):=funext fun y=>bytesLess_eq y x;rw[hb];have hL:=List.takeWhile_append_dropWhile (p:=fun y:Tx=>decide (y < x)) (l:=l);by_cases hh:(l.dropWhile fun y=>decide (y < x)).head? = some x
 ·rw[if_pos hh];refine⟨hl,fun y=>⟨fun h=>.inr h,fun h=>?_⟩⟩;rcases h with rfl | h
  ·rw[←hL];exact List.mem_append_right _ (List.mem_of_mem_head? hh)
  ·exact h
 ·rw[if_neg hh];have hp:=hl;rw[←hL,List.pairwise_append] at hp;have htake:∀ a∈l.takeWhile (fun y=>decide (y < x)),a < x:=fun a ha=>of_decide_eq_true (zR7 (p:=fun y:Tx=>decide (y < x)) _ _ ha);have hdrop:∀ b∈l.dropWhile (fun y=>decide (y < x)),x < b:=by
   intro b hbm;cases hd:l.dropWhile (fun y=>decide (y < x)) with
   | nil=>rw[hd] at hbm;cases hbm
   | cons q r=>
     have h0:¬ q < x:=of_decide_eq_false (zO2 (p:=fun y:Tx=>decide (y < x)) _ _ _ hd);have h1:x < q:=by
      rcases Decidable.em (x < q) with h | h
      ·exact h
      ·rw[hd] at hh;exact absurd (congrArg some (List.le_antisymm (by simpa using h) (by simpa using h0))) hh
     rw[hd] at hbm hp;rcases List.mem_cons.1 hbm with rfl | hbm
     ·exact h1
     ·exact List.lt_trans h1 ((List.pairwise_cons.1 hp.2.1).1 b hbm)
  refine⟨?_,fun y=>?_⟩
  ·rw[List.pairwise_append];refine⟨hp.1,List.pairwise_cons.2 ⟨hdrop,hp.2.1⟩,fun a ha b hb=>?_⟩;rcases List.mem_cons.1 hb with rfl | hb
   ·exact htake a ha
   ·exact List.lt_trans (htake a ha) (hdrop b hb)
  ·rw[List.mem_append,List.mem_cons];constructor
   ·rintro(h | h | h)
    ·exact .inr (by rw[←hL];exact List.mem_append_left _ h)
    ·exact .inl h
    ·exact .inr (by rw[←hL];exact List.mem_append_right _ h)
   ·rintro(h | h)
    ·exact .inr (.inl h)
    ·rw[←hL] at h;rcases List.mem_append.1 h with h | h
     ·exact .inl h
     ·exact .inr (.inr h)
theorem zE5:∀ (xs:List Tx)(acc:List Tx),acc.Pairwise (· < ·)→(xs.foldl insU acc).Pairwise (· < ·)∧∀ y,y∈xs.foldl insU acc↔y∈xs∨y∈acc
 | [],acc,h=>⟨h,fun y=>by simp⟩
 | x ::xs,acc,h=>by
   obtain⟨h1,h2⟩:=xW7 x h;obtain⟨h3,h4⟩:=zE5 xs (insU acc x) h1;refine⟨h3,fun y=>?_⟩;rw[List.foldl_cons,h4,h2,List.mem_cons];constructor
   ·exact xZ
   ·exact xY
theorem yM4:∀ (xs:List Tx)(acc:List Tx),(xs.foldl insU acc).length≤acc.length+xs.length
 | [],acc=>by simp
 | x ::xs,acc=>by
   have h:=yM4 xs (insU acc x);have h2:(insU acc x).length≤acc.length+1:=by
    unfold insU;split
    ·omega
    ·have hL:(acc.takeWhile fun y=>Op.bytesLess y x).length+(acc.dropWhile fun y=>Op.bytesLess y x).length=acc.length:=by rw[←List.length_append,List.takeWhile_append_dropWhile]
     have e:∀ (u v:List Tx),(u++x ::v).length=u.length+v.length+1:=fun u v=>by rw[List.length_append,List.length_cons];omega
     rw[e,hL];exact Nat.le_refl _
   rw[List.foldl_cons,List.length_cons];omega
theorem yJ7 {ss:List Tx}{xs:List Tx}(hn:ss.Nodup)(hm:∀ y,y∈ss↔y∈xs):ss.mergeSort (fun x y=>decide (x≤y))=xs.foldl insU []:=by
 have tr:∀ a b c:Tx,decide (a≤b)=true→decide (b≤c)=true→decide (a≤c)=true:=fun a b c h1 h2=>by simp only[decide_eq_true_eq] at *;exact List.le_trans h1 h2
 have htot:∀ a b:Tx,(decide (a≤b)||decide (b≤a))=true:=fun a b=>by simp only[Bool.or_eq_true,decide_eq_true_eq];exact List.le_total a b
 have hsorted:=List.pairwise_mergeSort tr htot ss;have hperm:=List.mergeSort_perm ss (fun x y=>decide (x≤y));obtain⟨h1,h2⟩:=zE5 xs [] List.Pairwise.nil;refine asc_uniq ((hsorted.and (hperm.nodup_iff.2 hn)).imp fun {p q} h=>?_) h1 fun y=>by rw[hperm.mem_iff,hm,h2];simp
 rcases Decidable.em (p < q) with h3 | h3
 ·exact h3
 ·exact absurd (List.le_antisymm (of_decide_eq_true h.1) (by simpa using h3)) h.2
theorem yJ8 {b n:Nat}{f:Tx→Option Value}{w:World}(h:OMap KS w b n f):Calls Tryz.prog 54 #[.map (some b)] w fun e w'=>e=.returned (.map (some w.heap.size))∧OMap KS w' w.heap.size n f∧Below w.heap.size w w':=by
 obtain⟨D,h1,h2⟩:=h;refine(AnyW.maps_Clone_owns Tryz.cloneMp 9 Rv b n D w h1).mono ?_;rintro e w' ⟨rfl,h3,_,h5⟩;exact⟨rfl,⟨D,h3,h2⟩,h5⟩
theorem sortsB (m:Nat):AnyZ.SortsIn Tryz.prog Tryz.sortedB_ren Fence.wide m:=
 ⟨fun blk off cap ss W hH hblk hsz=>callsIn_wide.2 (AnyM.slices_Sort_string Tryz.sortB blk off cap ss W hH hblk hsz),
  fun p cap W=>callsIn_wide.2 (AnyM.slices_Sort_string_none Tryz.sortB p cap W)⟩
theorem xW8 (mb:Option Nat)(W:World):Calls Tryz.prog 56 #[.map mb] W fun e w'=>e=.returned (.func (.func 89) #[] #[.pointer (some ⟨W.heap.size,0,none⟩)])∧w'=W.alloc (.cells #[.map mb] 103):=
 callsIn_wide.1 (AnyZ.keys_in Tryz.keysB Fence.wide 5 trivial rfl mb W)
set_option maxHeartbeats 1000000 in
theorem yJ9 {H:Type}(b nn:Nat)(D0:DataW H)(R:Value→Option (DataW H × List MemPlace))(w:World)(hown:w.ownsMap Tryz.prog 9 R b nn D0)(hmax:Maps.size D0≤maxLen)(hbytes:Maps.size D0*16≤140737488355328) :
  Calls Tryz.prog 55 #[.func (.func 89) #[] #[.pointer (some ⟨w.heap.size,0,none⟩)]] (w.alloc (.cells #[.map (some b)] 103)) fun e w'=>∃ (v:Value) (ss:List (List UInt8)),e=.returned v∧ss.Perm (strKeys D0)∧
   w'.ownsRow (w.alloc (.cells #[.map (some b)] 103)).heap.size 9 1 v ss.length ((ss.mergeSort (fun x y=>decide (x≤y))).map encStr)∧(v=.slice none 0 0↔ss=[])∧Below (w.alloc (.cells #[.map (some b)] 103)).heap.size (w.alloc (.cells #[.map (some b)] 103)) w':=by
 have hbl:=hown.lt;have hseq:SeqGives Fence.wide 2 Tryz.prog 89 #[.pointer (some ⟨w.heap.size,0,none⟩)] encStr (fun ss=>ss.Perm (strKeys D0)) (Maps.size D0) (w.alloc (.cells #[.map (some b)] 103)):=
  AnyZ.keys_gives (ρ:=Tryz.keysB_ren) {Tryz.keysB with} Fence.wide _ trivial rfl qG w.heap.size b nn D0 _ (by simp) (by simp) (by
   obtain⟨es,clock,hb,Ft,hs,hD⟩:=hown;exact⟨es,clock,(Below.heap_alloc _ _ b hbl).trans hb,Ft,hs,hD⟩)
 exact callsIn_wide.1 (AnyZ.sorted_in Tryz.sortedB Fence.wide 5 trivial trivial trivial trivial rfl qG (sortsB _) (enters_of Tryz.func88 qF rfl) 89 #[.pointer (some ⟨w.heap.size,0,none⟩)] trivial (enters_of Tryz.func89 qF rfl) _ _ hmax hbytes _ hseq)
theorem yQ1 {b n:Nat}{f:Tx→Option Value}{w:World}(xs:List Tx)(h:OMap KS w b n f)(hn:n≤1099511627776+1099511627776)(hx:∀ y∈xs,y.length≤maxLen)(hm:∀ y,(f y).isSome=true↔y∈xs) :
  Calls Tryz.prog 55 #[.func (.func 89) #[] #[.pointer (some ⟨w.heap.size,0,none⟩)]] (w.alloc (.cells #[.map (some b)] 103)) fun e w'=>∃ A c,e=.returned (.slice A (xs.foldl insU []).length c)∧Sl w' w'.heap.size 1 encS A (xs.foldl insU [])∧Below w.heap.size w w'∧∀ a,A=some a→w.heap.size≤a.block:=by
 obtain⟨D,h1,h2⟩:=h;obtain⟨k1,k2,k3,k4⟩:=zE8 h1 h2;have hsz:=h1.size_le;refine(yJ9 b n D Rv w h1 (by have:maxLen=9223372036854775807:=rfl;omega) qG).mono ?_;rintro e w' ⟨v,ss,rfl,hp,hrow,_,hb⟩;have hs:ss.mergeSort (fun x y=>decide (x≤y))=xs.foldl insU []:=yJ7 (hp.nodup_iff.2 k1) fun y=>by
  rw[hp.mem_iff];constructor
  ·intro hy;exact(hm y).1 ((k3 y (k2 y hy)).1 hy)
  ·intro hy;exact(k3 y (hx y hy)).2 ((hm y).2 hy)
 have hlen:ss.length=(xs.foldl insU []).length:=by rw[←hs,List.length_mergeSort]
 rw[hs,hlen] at hrow;obtain⟨A,c,rfl⟩:=zU6 hrow;have hrow2:w'.ownsRow (w.alloc (.cells #[.map (some b)] 103)).heap.size 9 1 (.slice A (xs.foldl insU []).length c) (xs.foldl insU []).length ((xs.foldl insU []).flatMap encS):=by
  have e:(xs.foldl insU []).map encStr=(xs.foldl insU []).flatMap encS:=by
   induction (xs.foldl insU []) with
   | nil=>rfl
   | cons x l ih=>rw[List.map_cons,ih,List.flatMap_cons];rfl
  rw[←e];exact hrow
 obtain⟨_,hSl⟩:=zG1 (k:=1) (enc:=encS) (fun _=>rfl) (.inl hrow2) (by decide);refine⟨A,c,rfl,hSl,((Below.refl w.heap.size w).alloc qJ _).trans (hb.mono (by simp)),fun a ha=>?_⟩;subst ha;have:=(hrow2.lt a.block rfl).1;simp at this;omega
def zR0 (rx:Tx→Bool)(p:Pk):List Tx × Int:=if errP rx p≠0 then([],errP rx p) else(((zY5 p.files).1++(zY5 p.files).2).foldl insU [],0)
def zG5 (ts:List Tx)(err:Int)(w:World)(e:Ending)(w':World):Prop:=
 ∃ A c,e=.returned (.tuple #[.slice A ts.length c,.int .i64 err])∧Sl w' w'.heap.size 1 encS A ts∧Below w.heap.size w w'
theorem yB4 {w:World}{B:Nat}{l:List DA}(h:OkAds w B l):∀ x∈zZ9 l,x.length≤maxLen:=fun x hx=>by
 unfold zZ9 zH8 at hx;rw[zX3] at hx;obtain⟨d,hd,e⟩:=List.mem_filterMap.1 hx;obtain⟨da,hda,rfl⟩:=List.mem_map.1 hd;have h1:=OkAds.at_ h hda;split at e
 ·injection e with e
  subst e;cases da with
  | mk=>exact h1.1.1
 ·cases e
theorem yB5 {w:World}{B:Nat}{p:PA}(h:∀ f∈p.files,OkF w B f):(∀ x∈zV0 p.files,x.length≤maxLen)∧∀ x∈zZ8 p.files,x.length≤maxLen:=by
 refine⟨fun x hx=>?_,fun x hx=>?_⟩
 ·obtain⟨f,hf,hx⟩:=List.mem_flatMap.1 hx;exact yB4 (h f hf).trees x hx
 ·unfold zZ8 zG3 at hx;obtain⟨d,hd,e⟩:=List.mem_map.1 hx;obtain⟨f,hf,hd2⟩:=List.mem_flatMap.1 hd;exact e▸yW4 (h f hf).trees _ (List.mem_map.2 ⟨d,hd2,rfl⟩)
set_option maxRecDepth 100000 in
set_option maxHeartbeats 4000000 in
theorem yM5 (rx:Tx→Bool)(p:PA)(w:World)(hP:PkL w p)(hR:∀ f∈p.files,PatDs (RxOk rx) (plDs f.decls))(hG:Glob w)(hs:(∀ f∈p.files,errF rx (plF f)=0)→wF p.files+(0+(p.files.map fun f=>vDs f.decls).sum)≤1099511627776) :
  Calls Tryz.prog 21 #[.agg #[.string ⟨p.path.toArray⟩,.slice p.A p.files.length p.c]] w (zG5 (zR0 rx (plP p)).1 (zR0 rx (plP p)).2 w):=by
 have hbw:=(Below.refl w.heap.size w).alloc qJ (.cells #[.string ⟨p.path.toArray⟩,.slice p.A p.files.length p.c] 24);have HB0:=qK (Blk.new w 24 #[.string ⟨p.path.toArray⟩,.slice p.A p.files.length p.c]);have HW:=qK hbw;have cL:=qK (yS6 rx p 0 (w.alloc (.cells #[.string ⟨p.path.toArray⟩,.slice p.A p.files.length p.c] 24)) (hP.keep hbw) hR (hG.keep hbw) hs);have HNm:=qK (yB5 hP.ok.each);have HLn:=qK (show (zV0 p.files).length≤p.files.length*1048576∧(zZ8 p.files).length≤p.files.length*1048576∧p.files.length≤1048576 from⟨by have h:=yN3 hP p.files.length;rw[List.take_length] at h;exact h,by
  have h:=zE1 hP p.files.length (List.replicate (zZ8 p.files).length 0);rw[List.take_length,List.length_zip,List.length_replicate,Nat.min_self] at h;exact h,hP.nf⟩)
 clear hP hR hG hs hbw;go_enter Tryz.func21,Tryz.ntmps21
 go_upto_region 1 with fail
 generalize w.alloc (.cells #[.string ⟨p.path.toArray⟩,.slice p.A p.files.length p.c] 24)=w1 at HB0 HW cL ⊢;have b0:=HB0.out.cell 0;have b1:=HB0.out.cell 1;go_wp2_with fail
 refine cL.out.mono ?_;rintro e w2 ⟨hb2,h⟩;clear b0 b1 cL;have HB2:=qK hb2;rcases h with ⟨h0,rfl⟩ | ⟨h0,hok,R,σ0,σ,env,rs,hRt,hV,h⟩
 ·have HE:=qK (zG4 h0);have H0:=qK h0;generalize zV6 rx p=ee at h0 HE H0 ⊢;have HR:=qK (show zG5 (zR0 rx (plP p)).1 (zR0 rx (plP p)).2 w (.returned (.tuple #[.slice none 0 0,.int .i64 ee])) w2 from by
   have e:zR0 rx (plP p)=([],ee):=by unfold zR0;rw[if_pos (by rw[HE.out];exact H0.out),HE.out]
   rw[e];exact⟨none,0,rfl,.inl rfl,HW.out.trans (HB2.out.mono HW.out.size)⟩)
  go_wp2;refine bodyPost_ret (v:=.tuple #[.slice none 0 0,.int .i64 ee]) (by simp[results,Tryz.results21,go_sem]) rfl HR.out
 ·have ht:=zP5 hRt hV;have hE:=zM0 h0;rw[←ht] at hE;rcases h with ⟨h6,rfl⟩ | ⟨h6,rfl,Im,hO⟩
  ·rw[h6,if_pos rfl] at hE;have HR:=qK (show zG5 (zR0 rx (plP p)).1 (zR0 rx (plP p)).2 w (.returned (.tuple #[.slice none 0 0,.int .i64 6])) w2 from by
    have e:zR0 rx (plP p)=([],6):=by unfold zR0;rw[if_pos (by rw[hE];decide),hE]
    rw[e];exact⟨none,0,rfl,.inl rfl,HW.out.trans (HB2.out.mono HW.out.size)⟩)
   clear h0 hok hRt hV ht hE h6 hb2;go_wp2;refine bodyPost_ret (v:=.tuple #[.slice none 0 0,.int .i64 6]) (by simp[results,Tryz.results21,go_sem]) rfl HR.out
  ·rw[h6,if_neg (by decide)] at hE;obtain⟨bF,bL,henv⟩:=hRt.ev;have hsh:=(yW7 hRt).1;have HE:=qK (show zR0 rx (plP p)=((zV0 p.files++zZ8 p.files).foldl insU [],0) from by
    unfold zR0;rw[if_neg (by rw[hE];decide)];have e:(plP p).files=p.files.map plF:=rfl;rw[e,zE4])
   have hlen:(zZ8 p.files).length=(σ0.ρ.objs.map (·.blk)).length:=by
    have:=congrArg List.length hRt.o2;rw[List.length_map] at this;rw[List.length_map,this,zZ8,List.length_map,←zD7 p.files 0,List.length_map]
   have hen:=hO.en.1;rw[henv] at hen;obtain⟨_,_,_,_,_,hOF,hOL,ov,hSc,_⟩:=hen;have hrc:=hO.st.rs.rc;have r2:=hrc.cell 2;have HSc:=qK (show Blk w2 R.root 122 #[.map (some bF),.map (some bL),ov,.int .i64 0] from hSc);have s0:=HSc.out.cell 0;have HRc:=qK hrc;generalize σ0.ρ.objs.map (·.blk)=bs at henv hOL hlen;have HOF:=qK (show OMap KS w2 bF (zV0 p.files).length (fF (zV0 p.files)) from hOF);have HOL:=qK (show OMap KS w2 bL ((zZ8 p.files).zip bs).length (fL ((zZ8 p.files).zip bs)) from hOL);have HBL:=qK (show bL < w2.heap.size from HOL.out.lt);have HMl:=qK (show ∀ y,(fL ((zZ8 p.files).zip bs) y).isSome=true↔y∈zZ8 p.files from fun y=>by
    unfold fL;rw[Option.isSome_map,Option.isSome_iff_exists,zN8,List.map_fst_zip qG])
   clear h0 hok hRt hV ht hE h6 hb2 hO henv hsh hlen hOF hOL hSc hrc;have cC:=yJ8 HOF.out;go_upto_region 5 with (refine cC.mono ?_;rintro e w3 ⟨rfl,hO3,hb3⟩)
   clear r2 s0 cC;have HB3:=qK hb3;have r2:=(HRc.out.keep hb3).cell 2;have s1:=(HSc.out.keep hb3).cell 1;have hz3:w2.heap.size < w3.heap.size:=hO3.lt;have HO3:=qK hO3;obtain⟨w4,cnt,hrun4,hR4,hg4,hz4,hcn⟩:=(HOL.out.below hb3).range Tryz.underlying118;have hrun4':(Instr.range 118 (.map (some bL))).run Tryz.prog w3=.ok (.pointer (some ⟨w3.heap.size,0,none⟩)) w4:=hrun4;obtain⟨ri,hri⟩:∃ ri,ri=w3.heap.size:=⟨_,rfl⟩;rw[←hri] at hrun4' hR4;obtain⟨al,hal⟩:∃ al,al=w2.heap.size:=⟨_,rfl⟩;rw[←hal] at HO3 ⊢;have HRi:=qK (show al≠ri∧w2.heap.size≤al∧w2.heap.size≤ri from⟨by omega,by omega,by omega⟩);generalize hMP:fL ((zZ8 p.files).zip bs)=MP at HMl hR4;have HB4:=qK (hb3.trans (((Below.refl w3.heap.size w3).grown hg4 qJ (by simp)).mono hb3.size));have R4:=qK (ORange.congr (S':=fun x=>(MP x).isSome&& !decide (x∈([]:List Tx))) hR4 (fun a=>by simp));have M4:=qK (show OMap KS w4 al ((zV0 p.files).length+([]:List Tx).length) (fF (zV0 p.files++ [])) from by
    rw[List.append_nil];exact HO3.out.keptK (M:=fun _=>False) ((Kp.refl _ w3).grown hg4 fun k hk=>by cases hk) id)
   have HCn:=qK (show ([]:List Tx).length+cnt≤((zZ8 p.files).zip bs).length from by simpa using hcn);have HLz:=qK (show ((zZ8 p.files).zip bs).length≤(zZ8 p.files).length from by rw[List.length_zip];exact Nat.min_le_left _ _);have HSc3:=qK (HSc.out.keep hb3);clear hrun4 hR4 hg4 hz4 hcn hMP hb3 hO3 hz3 hal HOL HOF HO3 hri;go_upto_region 6 with fail
   clear r2 s1 hrun4'
   go_loopg [] cnt (fun g wx=>∃ V:List Tx,Hid (∀ x∈V,(MP x).isSome=true)∧Hid (V.length+g≤((zZ8 p.files).zip bs).length)∧Hid (OMap KS wx al ((zV0 p.files).length+V.length) (fF (zV0 p.files++V)))∧Hid (ORange KS wx bL ri ((zZ8 p.files).zip bs).length MP (fun x=>(MP x).isSome&& !decide (x∈V)) g)∧Hid (Below w2.heap.size w2 wx))
   case atStart=>exact⟨[],qK (by simp),HCn,M4,R4,HB4⟩
   case round=>
    clear HCn M4 R4 HB4;obtain⟨V,HV,HC,HM,HR,HB⟩:=hrel;rcases HR.out.next 0 with ⟨hg0,hl0,hrun⟩ | ⟨y,u,w5,cnt',hok,hSm,hf,hrun,hR5,hlt5,hg5,hz5,hen⟩
    ·have hmem:∀ y,(fF (zV0 p.files++V) y).isSome=true↔y∈zV0 p.files++zZ8 p.files:=fun y=>by
      unfold fF;have h1:y∈V↔y∈zZ8 p.files:=by
       constructor
       ·intro h;exact(HMl.out y).1 (HV.out y h)
       ·intro h;have h2:=hl0 y (HNm.out.2 y h);rw[(HMl.out y).2 h,Bool.true_and] at h2;simpa using h2
      by_cases hy:y∈zV0 p.files++V
      ·rw[if_pos hy];simp only[Option.isSome_some,true_iff,List.mem_append] at hy ⊢;exact hy.imp id h1.1
      ·rw[if_neg hy];simp only[Option.isSome_none,Bool.false_eq_true,false_iff,List.mem_append] at hy ⊢;exact fun h=>hy (h.imp id h1.2)
     have hcn:=HC.out;have hnn:(zV0 p.files).length+V.length≤1099511627776+1099511627776:=by
      have h1:=HLn.out;have h2:=HLz.out;have h3:p.files.length*1048576≤1048576*1048576:=Nat.mul_le_mul_right _ h1.2.2;omega
     have cK:=xW8 (some al) wr;have cS0:=(yQ1 (zV0 p.files++zZ8 p.files) HM.out hnn (fun y hy=>by
      rcases List.mem_append.1 hy with h | h
      ·exact HNm.out.1 y h
      ·exact HNm.out.2 y h) hmem)
     obtain⟨Lr,hLr⟩:∃ Lr,Lr=(zV0 p.files++zZ8 p.files).foldl insU []:=⟨_,rfl⟩;rw[←hLr] at cS0;have HLr:=qK hLr;have cS:=qK cS0;clear hLr cS0;clear hmem hnn hcn hl0 hg0;go_wp2_with (first
      | (refine cK.mono ?_;rintro e w6 ⟨rfl,rfl⟩)
      | (refine cS.out.mono ?_;rintro e w6 ⟨A6,c6,rfl,hS6,hb6,_⟩))
     have HR6:=qK (show zG5 (zR0 rx (plP p)).1 (zR0 rx (plP p)).2 w (.returned (.tuple #[.slice A6 Lr.length c6,.int .i64 0])) w6 from by
      rw[HE.out,←HLr.out];exact⟨A6,c6,rfl,hS6,(HW.out.trans (HB2.out.mono HW.out.size)).trans ((HB.out.trans (hb6.mono HB.out.size)).mono (Nat.le_trans HW.out.size HB2.out.size))⟩)
     clear hS6 hb6 cK cS;generalize Lr.length=n6 at HR6 ⊢;go_wp2;refine bodyPost_ret (v:=.tuple #[.slice A6 n6 c6,.int .i64 0]) (by simp[results,Tryz.results21,go_sem]) rfl HR6.out
    ·have hrun':(Instr.next (.pointer (some ⟨ri,0,none⟩)) false 0).run Tryz.prog wr=.ok (.tuple #[.bool true,.string ⟨y.toArray⟩,u]) w5:=hrun;have hen':(Instr.entry (.pointer (some ⟨ri,0,none⟩))).run Tryz.prog w5=.ok (.tuple #[.string ⟨y.toArray⟩,u]) w5:=hen;have hk5:Kp (· = ri) wr w5:=(Kp.refl _ wr).grown hg5 fun k hk=>.inl (by injection hk with hk;exact hk.symm);have hM5:=HM.out.keptK hk5 HRi.out.1;have hcn:=HC.out;have hlt:(zV0 p.files).length+V.length < maxLen:=by
      have h1:=HLn.out;have h2:=HLz.out;have h3:p.files.length*1048576≤1048576*1048576:=Nat.mul_le_mul_right _ h1.2.2;have:maxLen=9223372036854775807:=rfl;omega
     obtain⟨w6,hrun6,hO6,hg6⟩:=hM5.put Tryz.underlying103 hlt y hok (.bool true);have hrun6':(Instr.mapUpdate 103 (.map (some al)) (.string ⟨y.toArray⟩) (.bool true)).run Tryz.prog w5=.ok () w6:=hrun6;have hk6:Kp (· = al) w5 w6:=(Kp.refl _ w5).grown hg6 fun k hk=>.inl (by injection hk with hk;exact hk.symm);have HB6:=qK ((HB.out.trans (hk5.toBelow HB.out.size fun b hb e=>by have:=HRi.out.2.2;omega)).trans (hk6.toBelow (Nat.le_trans HB.out.size hk5.size) fun b hb e=>by have:=HRi.out.2.1;omega));have R6:=qK (ORange.congr (S':=fun x=>(MP x).isSome&& !decide (x∈V++ [y])) (hR5.kept hg6 (by
      intro e;injection e with e
      have h1:=HBL.out;have h2:=HRi.out.2.1;omega) (by intro e;injection e with e;exact HRi.out.1 e.symm)) (fun x=>by
      by_cases hx:x=y
      ·subst hx;simp
      ·simp[hx]))
     have M6:=qK (show OMap KS w6 al ((zV0 p.files).length+(V++ [y]).length) (fF (zV0 p.files++(V++ [y]))) from by
      have e:(zV0 p.files).length+(V++ [y]).length=(zV0 p.files).length+V.length+1:=by rw[List.length_append];rfl
      rw[e];refine hO6.congr fun x _=>?_;unfold fF;by_cases hx:x=y
      ·subst hx;simp
      ·simp[hx])
     have HV6:=qK (show ∀ x∈V++ [y],(MP x).isSome=true from fun x hx=>by
      rcases List.mem_append.1 hx with h1 | h1
      ·exact HV.out x h1
      ·rw[List.mem_singleton.1 h1,hf];rfl)
     have HC6:=qK (show (V++ [y]).length+cnt'≤((zZ8 p.files).zip bs).length from by rw[List.length_append,List.length_singleton];omega);clear hrun hen hR5 hg5 hf hz5 hrun6 hO6 hg6 hk5 hk6 hM5 hlt hcn hSm hok;go_wp2
     go_roundg cnt'
     case measure=>exact hlt5
     case rel=>exact⟨V++ [y],HV6,HC6,M6,R6,HB6⟩
end Go.Proofs.YtdgehhgjgifikaaGreatDoor
