/- What the claim needs of:ER EC. -/
import Derived.Test.YtdgehhgjgifikaaGreatDoorK27
import Derived.Test.YtdgehhgjgifikaaGreatDoorK24
import Derived.Test.YtdgehhgjgifikaaGreatDoorK25
namespace Go.Proofs.YtdgehhgjgifikaaGreatDoor
open Go.RowKit Go.Sort Go.Shelf
theorem loadC {rx:Tx→Bool}{p:PA}{B s:Nat}{w1 w2:World}{e:Ending}(h0:errP rx (plP p)=0)(h:zN6 B rx p s w1 e w2) :
  Below w1.heap.size w1 w2∧(∀ f∈p.files,errF rx (plF f)=0)∧∃ R σ0 σ env rs0 Im,Root p R σ0 env∧zO6 R U0 env 0 p.files σ0 σ rs0∧e=.returned (.tuple #[.pointer (some ⟨R.r,0,none⟩),.int .i64 0])∧LoadOk B w1 p s R σ0 σ env Im w2:=by
 obtain⟨hb,h⟩:=h;refine⟨hb,?_⟩;rcases h with ⟨h1,rfl⟩ | ⟨h1,hok,R,σ0,σ,env,rs,hRt,hV,h⟩
 ·exact absurd ((zG4 h1).symm.trans h0) h1
 ·have hE:=zM0 h1;rw[←zP5 hRt hV] at hE;rcases h with ⟨h6,rfl⟩ | ⟨h6,rfl,Im,hO⟩
  ·rw[h6,if_pos rfl] at hE;rw[hE] at h0;cases h0
  ·exact⟨hok,R,σ0,σ,env,rs,Im,hRt,hV,rfl,hO⟩
set_option maxRecDepth 100000 in
set_option maxHeartbeats 16000000 in
theorem yL1 (rx:Tx→Bool)(p:PA)(w:World)(hP:PkL w p)(hR:∀ f∈p.files,PatDs (RxOk rx) (plDs f.decls))(hG:Glob w)(hs:(∀ f∈p.files,errF rx (plF f)=0)→wF p.files+((p.files.map fun f=>vDs f.decls).sum+(p.files.map fun f=>vDs f.decls).sum)≤1099511627776)
  (he0:errP rx (plP p)=0)(hcy:∀ (R:RF)(σ0 σ:GS Unit)(env:List ScA)(rs0:List (List DA))(u:Value)(n:Nat)(σ':GS Bool)(rs:List (List DA)),Root p R σ0 env→zO6 R U0 env 0 p.files σ0 σ rs0→zO6 (R.with_ u) (RsU (R.with_ u) (n+3)) env 0 p.files (σ.put false) σ' rs→σ'.ρ.cyc=true) :
  Calls Tryz.prog 25 #[.agg #[.string ⟨p.path.toArray⟩,.slice p.A p.files.length p.c]] w fun e w'=>e=.returned (.tuple #[.agg #[.string ⟨#[]⟩,.slice none 0 0],.int .i64 15])∧Below w.heap.size w w':=by
 obtain⟨w1,hw1⟩:∃ w1,(w.alloc (.cells #[.string ⟨p.path.toArray⟩,.slice p.A p.files.length p.c] 24)).alloc (.cells #[.string ⟨#[]⟩,.slice none 0 0] 24)=w1:=⟨_,rfl⟩;have hb1:Below w.heap.size w w1:=by rw[←hw1];exact((Below.refl w.heap.size w).alloc qJ _).alloc (by simp) _
 have hz1:w1.heap.size=w.heap.size+1+1:=by rw[←hw1];simp
 have HZ1:=qK (show w.heap.size+1 < w1.heap.size from by omega);have HB0:=qK (show Blk w1 w.heap.size 24 #[.string ⟨p.path.toArray⟩,.slice p.A p.files.length p.c] from by rw[←hw1];exact(Blk.new w _ _).alloc _);have HBr:=qK (show Blk w1 (w.heap.size+1) 24 #[.string ⟨#[]⟩,.slice none 0 0] from by
  rw[←hw1];have:=Blk.new (w.alloc (.cells #[.string ⟨p.path.toArray⟩,.slice p.A p.files.length p.c] 24)) 24 #[.string ⟨#[]⟩,.slice none 0 0];rw[World.size_alloc] at this;exact this)
 have HW:=qK hb1;have hnf:=hP.nf;have HP:=qK hP;have HE9:=qK he0;have HCy:=qK hcy;have HGl:=qK (hG.keep hb1);have cL:=qK (yN4 rx p ((p.files.map fun f=>vDs f.decls).sum) w1 hb1.size (hP.ok.below hb1) (hP.keep hb1) hR (hG.keep hb1) hs);clear hP hR hG hs hb1 hz1 he0 hcy;go_enter Tryz.func25,Tryz.ntmps25
 go_upto_region 1 with fail
 clear hw1;have b0:=HB0.out.cell 0;have b1:=HB0.out.cell 1;go_wp2_with fail
 refine cL.out.mono ?_;rintro e w2 h;obtain⟨hb2,h⟩:=loadC HE9.out h;clear b0 b1 cL;have HB2:=qK hb2;have HBr2:=qK (HBr.out.keep hb2);clear hb2;obtain⟨hok,R,σ0,σ,env,rs0,Im,hRt,hV,rfl,hO⟩:=h;have HOk:=qK hok;have HRt:=qK (show _∧_ from⟨hRt,hV⟩);have hbB:Below w2.heap.size w2 ((w2.alloc (.cells #[.pointer (some ⟨R.r,0,none⟩)] 77)).alloc (.cells #[.bool false] 4)):=((Below.refl w2.heap.size w2).alloc qJ _).alloc (by simp) _;have hrb:Blk ((w2.alloc (.cells #[.pointer (some ⟨R.r,0,none⟩)] 77)).alloc (.cells #[.bool false] 4)) R.r 86 #[.string ⟨R.path.toArray⟩,.slice R.FA R.nF R.cF,.pointer (some ⟨R.root,0,none⟩),.slice R.Ai R.iB.length R.ci,.slice R.Au R.uB.length R.cu,σ.av,.bool σ.ρ.twice,.bool σ.ρ.cyc,R.use]:=hO.st.rs.rc.keep hbB;have hbr:Blk ((w2.alloc (.cells #[.pointer (some ⟨R.r,0,none⟩)] 77)).alloc (.cells #[.bool false] 4)) w2.heap.size 77 #[.pointer (some ⟨R.r,0,none⟩)]:=(Blk.new w2 _ _).alloc _;have hbd:Blk ((w2.alloc (.cells #[.pointer (some ⟨R.r,0,none⟩)] 77)).alloc (.cells #[.bool false] 4)) (w2.heap.size+1) 4 #[.bool false]:=by
  have:=Blk.new (w2.alloc (.cells #[.pointer (some ⟨R.r,0,none⟩)] 77)) 4 #[.bool false];rw[World.size_alloc] at this;exact this
 have r8:=hrb.cell 8;have f8:=hrb.free 8;have x0:=hbr.cell 0;have hkS:Kp (fun b=>b=R.r) w2 (((w2.alloc (.cells #[.pointer (some ⟨R.r,0,none⟩)] 77)).alloc (.cells #[.bool false] 4)).setCell ⟨R.r,8,none⟩ (.func (.func 59) #[] #[.pointer (some ⟨w2.heap.size,0,none⟩),.pointer (some ⟨w2.heap.size+1,0,none⟩)])):=(((Kp.refl (fun b=>b=R.r) w2).alloc _).alloc _).setCell (p:=⟨R.r,8,none⟩) rfl _;have hrS:Blk (((w2.alloc (.cells #[.pointer (some ⟨R.r,0,none⟩)] 77)).alloc (.cells #[.bool false] 4)).setCell ⟨R.r,8,none⟩ (.func (.func 59) #[] #[.pointer (some ⟨w2.heap.size,0,none⟩),.pointer (some ⟨w2.heap.size+1,0,none⟩)])) R.r 86 #[.string ⟨R.path.toArray⟩,.slice R.FA R.nF R.cF,.pointer (some ⟨R.root,0,none⟩),.slice R.Ai R.iB.length R.ci,.slice R.Au R.uB.length R.cu,σ.av,.bool σ.ρ.twice,.bool σ.ρ.cyc,.func (.func 59) #[] #[.pointer (some ⟨w2.heap.size,0,none⟩),.pointer (some ⟨w2.heap.size+1,0,none⟩)]]:=by simpa using hrb.set_ 8 (.func (.func 59) #[] #[.pointer (some ⟨w2.heap.size,0,none⟩),.pointer (some ⟨w2.heap.size+1,0,none⟩)])
 have hbrS:Blk (((w2.alloc (.cells #[.pointer (some ⟨R.r,0,none⟩)] 77)).alloc (.cells #[.bool false] 4)).setCell ⟨R.r,8,none⟩ (.func (.func 59) #[] #[.pointer (some ⟨w2.heap.size,0,none⟩),.pointer (some ⟨w2.heap.size+1,0,none⟩)])) w2.heap.size 77 #[.pointer (some ⟨R.r,0,none⟩)]:=hbr.far (fun e=>zQ1 hbr hrb (by decide) e) _;have hbdS:Blk (((w2.alloc (.cells #[.pointer (some ⟨R.r,0,none⟩)] 77)).alloc (.cells #[.bool false] 4)).setCell ⟨R.r,8,none⟩ (.func (.func 59) #[] #[.pointer (some ⟨w2.heap.size,0,none⟩),.pointer (some ⟨w2.heap.size+1,0,none⟩)])) (w2.heap.size+1) 4 #[.bool false]:=hbd.far (fun e=>zQ1 hbd hrb (by decide) e) _;have hszS:((((w2.alloc (.cells #[.pointer (some ⟨R.r,0,none⟩)] 77)).alloc (.cells #[.bool false] 4)).setCell ⟨R.r,8,none⟩ (.func (.func 59) #[] #[.pointer (some ⟨w2.heap.size,0,none⟩),.pointer (some ⟨w2.heap.size+1,0,none⟩)]))).heap.size=w2.heap.size+1+1:=by simp[World.setCell]
 have HS9:=qK (show _∧_∧_∧_∧_ from⟨hkS,hrS,hbrS,hbdS,hszS⟩);have HO:=qK hO;clear hok hRt hV hbB hrb hbr hbd hkS hrS hbrS hbdS hszS hO;go_upto_region 6 with fail
 clear r8 f8 x0;generalize (((w2.alloc (.cells #[.pointer (some ⟨R.r,0,none⟩)] 77)).alloc (.cells #[.bool false] 4)).setCell ⟨R.r,8,none⟩ (.func (.func 59) #[] #[.pointer (some ⟨w2.heap.size,0,none⟩),.pointer (some ⟨w2.heap.size+1,0,none⟩)]))=wS at HS9 ⊢;have hIB:BtwR w w1 p ((p.files.map fun f=>vDs f.decls).sum) (R.with_ (.func (.func 59) #[] #[.pointer (some ⟨w2.heap.size,0,none⟩),.pointer (some ⟨w2.heap.size+1,0,none⟩)])) (cloR R.r w2.heap.size (w2.heap.size+1)) env (σ.put false) Im wS:=by
  have hO:=HO.out;obtain⟨hkS,hrS,hbrS,hbdS,hszS⟩:=HS9.out;have hrN:∀ b,Im b→¬ b=R.r:=fun b hb e=>(hO.st.zo.mu b (.inl e)).2 hb;have hT:St (R.with_ (.func (.func 59) #[] #[.pointer (some ⟨w2.heap.size,0,none⟩),.pointer (some ⟨w2.heap.size+1,0,none⟩)])) (cloR R.r w2.heap.size (w2.heap.size+1)) 1099511627776 ((p.files.map fun f=>vDs f.decls).sum) (σ.put false) Im wS:=
   hO.st.swap (C':=(cloR R.r w2.heap.size (w2.heap.size+1))) (x':=false) (.func (.func 59) #[] #[.pointer (some ⟨w2.heap.size,0,none⟩),.pointer (some ⟨w2.heap.size+1,0,none⟩)]) hkS hrS ⟨hbrS,hbdS⟩ (fun b hb=>by rcases hb with e | e <;> (rw[e];constructor <;> omega)) rfl
  have hpk:=hO.pk.kept hkS hrN (fun _ h=>h);refine⟨hT,⟨hpk.len,hpk.sl,hpk.ds,hpk.ts⟩,hO.en.kept hkS hrN (fun _ h=>h),hO.kn,hO.nb,fun b hb=>?_,hO.nu,HB2.out.trans (hkS.toBelow HB2.out.size fun b hb e=>by have:=hO.mo R.r (.inl rfl);omega)⟩;have h2:=HB2.out.size;rcases hb with e | e | e | e | e
  ·exact hO.mo b (.inl e)
  ·exact hO.mo b (.inr (.inl e))
  ·exact hO.mo b (.inr (.inr (.inl e)))
  ·exact hO.mo b (.inr (.inr (.inr (.inl e))))
  ·rcases e with e | e <;> omega
 have b0:=(HB0.out.keep hIB.lo).cell 0;have HIB:=qK hIB;clear hIB HO HS9;go_upto_region 7 with fail
 clear b0;have hbo:=(Below.refl wS.heap.size wS).alloc qJ (.cells #[.string ⟨p.path.toArray⟩,.slice none 0 0] 24);have HIO:=qK (HIB.out.below hbo);have HBo:=qK (show Blk (wS.alloc (.cells #[.string ⟨p.path.toArray⟩,.slice none 0 0] 24)) wS.heap.size 24 #[.string ⟨p.path.toArray⟩,.slice none 0 0]∧MineR (R.with_ (.func (.func 59) #[] #[.pointer (some ⟨w2.heap.size,0,none⟩),.pointer (some ⟨w2.heap.size+1,0,none⟩)])) (cloR R.r w2.heap.size (w2.heap.size+1)) (σ.put false) Im w1 (wS.alloc (.cells #[.string ⟨p.path.toArray⟩,.slice none 0 0] 24)) wS.heap.size from⟨Blk.new _ _ _,HIB.out.new_ qJ (by simp)⟩);clear hbo HIB;have b1:=(HB0.out.keep HIO.out.lo).cell 1;go_upto_region 8 with fail
 clear b1;generalize (wS.alloc (.cells #[.string ⟨p.path.toArray⟩,.slice none 0 0] 24))=wO at HIO HBo ⊢;go_loopw [32] (fun iv wq=>∃ (i:Nat) (σi:GS Bool) (Imi:Nat→Prop) (rs:List (List DA)) (fas:List FA) (Ao:Option Addr) (co:Nat),i≤p.files.length∧iv=.int .i64 (i:Nat)∧Hid (BtwR w w1 p (((p.files.drop i).map fun f=>vDs f.decls).sum) (R.with_ (.func (.func 59) #[] #[.pointer (some ⟨w2.heap.size,0,none⟩),.pointer (some ⟨w2.heap.size+1,0,none⟩)])) (cloR R.r w2.heap.size (w2.heap.size+1)) env σi Imi wq)∧Hid (Blk wq wS.heap.size 24 #[.string ⟨p.path.toArray⟩,.slice Ao i co]∧MineR (R.with_ (.func (.func 59) #[] #[.pointer (some ⟨w2.heap.size,0,none⟩),.pointer (some ⟨w2.heap.size+1,0,none⟩)])) (cloR R.r w2.heap.size (w2.heap.size+1)) σi Imi w1 wq wS.heap.size)∧Hid (FsR (R.with_ (.func (.func 59) #[] #[.pointer (some ⟨w2.heap.size,0,none⟩),.pointer (some ⟨w2.heap.size+1,0,none⟩)])) (cloR R.r w2.heap.size (w2.heap.size+1)) w1 wS.heap.size (.slice Ao i co) fas σi Imi wq)∧Hid (zO6 (R.with_ (.func (.func 59) #[] #[.pointer (some ⟨w2.heap.size,0,none⟩),.pointer (some ⟨w2.heap.size+1,0,none⟩)])) (RL (R.with_ (.func (.func 59) #[] #[.pointer (some ⟨w2.heap.size,0,none⟩),.pointer (some ⟨w2.heap.size+1,0,none⟩)]))) env 0 (p.files.take i) (σ.put false) σi rs)∧Hid (FsD p i rs fas)) (fun iv _=>p.files.length-(intOf iv).toNat)
 case atStart=>exact⟨0,σ.put false,Im,[],[],none,0,Nat.zero_le _,rfl,by simpa using HIO,HBo,qK FsR.nil_,qK ⟨rfl,rfl⟩,qK ⟨rfl,rfl,by simp⟩⟩
 case round=>
  clear HIO HBo;obtain⟨i,σi,Imi,rs,fas,Ao,co,hi,rfl,Bi,Oi,Fi,Vi,Di⟩:=hrel;by_cases hlt:i < p.files.length
  ·have hlt':(i:Int) < (p.files.length:Int):=by omega
   have HM:=qK (List.getElem_mem hlt);have HTk:=qK (List.take_succ_eq_append_getElem hlt);obtain⟨bb,off,hA,hbW,hc⟩:=HP.out.ok.files.1.at_ hlt;have hwr:Below w.heap.size w wr:=HW.out.trans (Bi.out.lo.mono HW.out.size);obtain⟨c0,c1,c2,c3⟩:=yC6 hc;clear hc;replace c0:=zZ0 hwr hbW c0;replace c1:=zZ0 hwr hbW c1;replace c2:=zZ0 hwr hbW c2;replace c3:=zZ0 hwr hbW c3;have HEa:=qK (show OkF w w.heap.size p.files[i]∧(p.files[i].imps.length≤1048576∧p.files[i].tail.length≤1048576) from⟨HP.out.ok.each _ HM.out,(HP.out.sz _ HM.out).1,(HP.out.sz _ HM.out).2.2.2⟩);have HTs:=qK (Bi.out.pk.ts _ HM.out);obtain⟨f,hf⟩:∃ f,p.files[i]=f:=⟨_,rfl⟩;rw[hf] at c0 c1 c2 c3 HTs HEa;have HFe:=qK hf;clear hf;obtain⟨fpkg,fAi,fci,fimps,fAd,fcd,fdecls,fAt,fct,ftail⟩:=f;dsimp only at c0 c1 c2 c3 HTs HEa;have hba:=(Below.refl wr.heap.size wr).alloc qJ (.cells #[.string ⟨fpkg.toArray⟩,.slice fAi fimps.length fci,.slice fAd fdecls.length fcd,.slice fAt ftail.length fct] 58);have Bb:=qK (show BnR w w1 p (((p.files.drop i).map fun f=>vDs f.decls).sum) (R.with_ (.func (.func 59) #[] #[.pointer (some ⟨w2.heap.size,0,none⟩),.pointer (some ⟨w2.heap.size+1,0,none⟩)])) (cloR R.r w2.heap.size (w2.heap.size+1)) env wS.heap.size (.slice Ao i co) fas [(wS.heap.size,24,#[.string ⟨p.path.toArray⟩,.slice Ao i co])] σi Imi (wr.alloc (.cells #[.string ⟨fpkg.toArray⟩,.slice fAi fimps.length fci,.slice fAd fdecls.length fcd,.slice fAt ftail.length fct] 58)) from⟨Bi.out.below hba,Fi.out.below hba,fun q hq=>by rw[List.mem_singleton] at hq;subst hq;exact⟨Oi.out.1.keep hba,Oi.out.2.up hba.size,fun e=>(Fi.out.ma _ e).2 rfl⟩⟩);have Xb:=qK (Blk.new wr 58 #[.string ⟨fpkg.toArray⟩,.slice fAi fimps.length fci,.slice fAd fdecls.length fcd,.slice fAt ftail.length fct]);have hkN:=Kp.ofBelow hba (fun _=>False);have Tb:=qK (show SlN (wr.alloc (.cells #[.string ⟨fpkg.toArray⟩,.slice fAi fimps.length fci,.slice fAd fdecls.length fcd,.slice fAt ftail.length fct] 58)) (wr.alloc (.cells #[.string ⟨fpkg.toArray⟩,.slice fAi fimps.length fci,.slice fAd fdecls.length fcd,.slice fAt ftail.length fct] 58)).heap.size 3 encI fAi fimps∧SlN (wr.alloc (.cells #[.string ⟨fpkg.toArray⟩,.slice fAi fimps.length fci,.slice fAd fdecls.length fcd,.slice fAt ftail.length fct] 58)) (wr.alloc (.cells #[.string ⟨fpkg.toArray⟩,.slice fAi fimps.length fci,.slice fAd fdecls.length fcd,.slice fAt ftail.length fct] 58)).heap.size 1 encS fAt ftail from⟨(HTs.out.2.kept hkN (fun _ _ h=>h) (fun _ h=>h)).n,(HTs.out.1.kept hkN (fun _ _ h=>h) (fun _ h=>h)).n⟩)
   clear hkN;go_upto_region 10 with fail
   clear c0 c1 c2 c3 hA hbW hwr hba HTs Bi Oi Fi;generalize wr.alloc (.cells #[.string ⟨fpkg.toArray⟩,.slice fAi fimps.length fci,.slice fAd fdecls.length fcd,.slice fAt ftail.length fct] 58)=wb at Bb Xb Tb ⊢;have cI:=qK (fun W (hW:Below wb.heap.size wb W)=>yA0 fAi fci fimps W ((Tb.out.1.below hW).more hW.size));have cT:=qK (fun W (hW:Below wb.heap.size wb W)=>yA1 fAt fct ftail W ((Tb.out.2.below hW).more hW.size));have zr:=zeroFile;obtain⟨k0,k1,k2,k3⟩:=yG2 Xb.out;have hz0:wr.heap.size < wb.heap.size:=Xb.out.lt;apply zZ5 qF [isv _,isv _,isv _,isv _,(fun v W=>∃ (A7:Option Addr) (c7:Nat),v=.slice A7 fimps.length c7∧NewSl wb.heap.size 3 encI 60 A7 fimps W),isv _,isv _,(fun v W=>∃ (A8:Option Addr) (c8:Nat),v=.slice A8 ftail.length c8∧NewSl wb.heap.size 1 encS 9 A8 ftail W),(fun v W=>∃ (A7:Option Addr) (c7:Nat) (A8:Option Addr) (c8:Nat),v=.agg #[.string ⟨fpkg.toArray⟩,.slice A7 fimps.length c7,.slice none 0 0,.slice A8 ftail.length c8]∧NewSl wb.heap.size 3 encI 60 A7 fimps W∧NewSl wb.heap.size 1 encS 9 A8 ftail W),(fun v W=>∃ g:Nat,v=.pointer (some ⟨g,0,none⟩)∧wb.heap.size≤g∧Blk W g 58 #[.string ByteArray.empty,.slice none 0 0,.slice none 0 0,.slice none 0 0])] wb.heap.size wb qJ qH.drew qF qF qF qF qF (qC (qC (qC (qC (qA (fun _ _ _ ⟨A,c,e,h⟩ hb=>⟨A,c,e,h.below hb⟩) (qC (qC (qA (fun _ _ _ ⟨A,c,e,h⟩ hb=>⟨A,c,e,h.below hb⟩) (qA (fun _ _ _ ⟨A,c,A1,c1,e,h,h1⟩ hb=>⟨A,c,A1,c1,e,h.below hb,h1.below hb⟩) (qA (fun _ _ _ ⟨g,e,h1,h2⟩ hb=>⟨g,e,h1,h2.keep hb⟩) trivial)))))))))) ?steps (by rfl) _ rfl rfl ?fin;case steps=>
    refine qA (qS 9) (qA ?_ ?_)
    ·intro AA W KK QQ hB hs hd hl hk;obtain⟨_,sl37,rfl⟩:=hd 0 37 qF rfl;clear hs hd hl;have hx0:=hB.cell (p:=⟨wr.heap.size,0,none⟩) hz0;rw[k0] at hx0;go_simp;exact hk _ _ rfl qH
    refine qA (qS 9) (qA ?_ ?_)
    ·intro AA W KK QQ hB hs hd hl hk;obtain⟨_,sl39,rfl⟩:=hd 2 39 qF rfl;clear hs hd hl;have hx1:=hB.cell (p:=⟨wr.heap.size,1,none⟩) hz0;rw[k1] at hx1;go_simp;exact hk _ _ rfl qH
    refine qA ?_ ?_
    ·intro AA W KK QQ hB hs hd hl hk;obtain⟨_,sl40,rfl⟩:=hd 3 40 qF rfl;clear hs hd hl;go_simp;refine(cI.out W hB).mono ?_;rintro e W2 ⟨A7,c7,rfl,hS7,hb2⟩;exact hk _ _ ⟨A7,c7,rfl,hS7.low hB.size⟩ hb2
    refine qA (qS 9) (qA ?_ ?_)
    ·intro AA W KK QQ hB hs hd hl hk;obtain⟨_,sl42,rfl⟩:=hd 5 42 qF rfl;clear hs hd hl;have hx3:=hB.cell (p:=⟨wr.heap.size,3,none⟩) hz0;rw[k3] at hx3;go_simp;exact hk _ _ rfl qH
    refine qA ?_ ?_
    ·intro AA W KK QQ hB hs hd hl hk;obtain⟨_,sl43,rfl⟩:=hd 6 43 qF rfl;clear hs hd hl;go_simp;refine(cT.out W hB).mono ?_;rintro e W2 ⟨A8,c8,rfl,hS8,hb2⟩;exact hk _ _ ⟨A8,c8,rfl,hS8.low hB.size⟩ hb2
    refine qA ?_ ?_
    ·intro AA W KK QQ hB hs hd hl hk;obtain⟨_,sl38,rfl⟩:=hd 1 38 qF rfl;obtain⟨_,sl41,⟨A7,c7,rfl,hS7⟩⟩:=hd 4 41 qF rfl;obtain⟨_,sl44,⟨A8,c8,rfl,hS8⟩⟩:=hd 7 44 qF rfl;clear hs hd hl;go_simp;exact hk _ _ ⟨A7,c7,A8,c8,rfl,hS7,hS8⟩ qH
    exact qA yV trivial
   case fin=>
    intro wf hB GG hGG
    iterate 4 refine qN ?_
    refine zZ4 41 rfl ?_;rintro _ ⟨_,_,rfl,_⟩
    iterate 2 refine qN ?_
    refine zZ4 44 rfl ?_;rintro _ ⟨_,_,rfl,_⟩;refine zZ4 45 rfl ?_;rintro _ ⟨A7,c7,A8,c8,rfl,hS7,hS8⟩;refine zZ4 10 rfl ?_;rintro _ ⟨g,rfl,hg,hG⟩;refine zV9 hGG ?_;clear hGG k0 k1 k2 k3 zr;obtain⟨Im9,h9,s7,s8,hd9⟩:=Bb.out.made hB hS7 hS8 HEa.out.2.1 HEa.out.2.2 hG hg;have g0:=hG.cell 0;have g1:=hG.cell 1;have g2:=hG.cell 2;have g3:=hG.cell 3;have k0:=hG.free 0;have k1:=hG.free 1;have k2:=hG.free 2;have k3:=hG.free 3;obtain⟨h10,q10,i10⟩:=h9.store4 (.string ⟨fpkg.toArray⟩) (.slice A7 fimps.length c7) (.slice none 0 0) (.slice A8 ftail.length c8) hd9;have B9:=qK h10;have S9:=qK (show _∧_∧_ from⟨s7.kept q10 i10 (fun _ h=>h),s8.kept q10 i10 (fun _ h=>h),hd9⟩);clear h9 s7 s8 hd9 h10 q10 i10 hS7 hS8 hG hB hg hz0 cI cT Bb Xb Tb;go_simp;generalize (((wf.setCell ⟨g,0,none⟩ (.string ⟨fpkg.toArray⟩)).setCell ⟨g,1,none⟩ (.slice A7 fimps.length c7)).setCell ⟨g,2,none⟩ (.slice none 0 0)).setCell ⟨g,3,none⟩ (.slice A8 ftail.length c8)=w3 at B9 S9 ⊢;clear g0 g1 g2 g3 k0 k1 k2 k3;have x0:=B9.out.b.st.cl.1.cell 0;obtain⟨bF',bL',henv⟩:=HRt.out.1.ev;have hsum:((p.files.drop i).map fun f=>vDs f.decls).sum=((p.files.drop (i+1)).map fun f=>vDs f.decls).sum+vDs p.files[i].decls:=by rw[List.drop_eq_getElem_cons hlt,List.map_cons,List.sum_cons,Nat.add_comm]
    have hB:=B9.out.b;have cF:=qK (yS2 (R:=(R.with_ (.func (.func 59) #[] #[.pointer (some ⟨w2.heap.size,0,none⟩),.pointer (some ⟨w2.heap.size+1,0,none⟩)]))) (C:=(cloR R.r w2.heap.size (w2.heap.size+1))) (U:=RL (R.with_ (.func (.func 59) #[] #[.pointer (some ⟨w2.heap.size,0,none⟩),.pointer (some ⟨w2.heap.size+1,0,none⟩)]))) p.files i hlt (declsR rfl _) σi Im9 w3 (((p.files.drop (i+1)).map fun f=>vDs f.decls).sum) env (by rw[←hsum];exact hB.st) hB.pk hB.en hB.kn (by rw[henv];simp) (by rw[hB.nu];exact hlt) (by rw[henv];have h:=yS5 HOk.out _ (List.getElem_mem hlt);simp;omega));clear hsum henv hB;go_wp2_with fail
    refine cF.out.mono ?_;rintro e w4 ⟨σ',Im',l',A',c',rfl,hV,hS,hQ,hGr,hSl,hOl⟩;have B4:=qK (B9.out.step hS hQ hGr);have hN:∀ b,Im9 b→¬ (zn (R.with_ (.func (.func 59) #[] #[.pointer (some ⟨w2.heap.size,0,none⟩),.pointer (some ⟨w2.heap.size+1,0,none⟩)])) (cloR R.r w2.heap.size (w2.heap.size+1)) σi Im9).Mut b:=fun b hb hm=>(B9.out.b.st.zo.mu b hm).2 hb;have S4:=qK (show SlI Im' w4 3 encI A7 fimps∧SlI Im' w4 1 encS A8 ftail∧SlI Im' w4 11 encD A' l'∧OkIds Im' w4 l' from⟨S9.out.1.kept hQ.kp hN hQ.im,S9.out.2.1.kept hQ.kp hN hQ.im,hSl,hOl⟩);have HD9:=qK S9.out.2.2;have V4:=qK (show zO6 (R.with_ (.func (.func 59) #[] #[.pointer (some ⟨w2.heap.size,0,none⟩),.pointer (some ⟨w2.heap.size+1,0,none⟩)])) (RL (R.with_ (.func (.func 59) #[] #[.pointer (some ⟨w2.heap.size,0,none⟩),.pointer (some ⟨w2.heap.size+1,0,none⟩)]))) env 0 (p.files.take (i+1)) (σ.put false) σ' (rs++ [l']) from by
     rw[HTk.out];refine zE0 Vi.out ?_;have e:0+(p.files.take i).length=i:=by rw[List.length_take];omega
     rw[e];exact hV)
    have D4:=qK (Di.out.snoc (g:=⟨fpkg,A7,c7,fimps,A',c',l',A8,c8,ftail⟩) (d:=l') hlt (by rw[HFe.out]));have HL:=qK Di.out.1;clear cF x0 hV hS hQ hGr hSl hOl hN B9 S9 Vi Di;have g2:=(B4.out.g _ (List.mem_cons_self ..)).1.cell 2;have k2:=(B4.out.g _ (List.mem_cons_self ..)).1.free 2;obtain⟨h5,q5,i5⟩:=B4.out.set_ (i:=2) (.slice A' l'.length c') HD9.out;have B5:=qK (h5.cast (gs':=[(g,58,#[.string ⟨fpkg.toArray⟩,.slice A7 fimps.length c7,.slice A' l'.length c',.slice A8 ftail.length c8]),(wS.heap.size,24,#[.string ⟨p.path.toArray⟩,.slice Ao i co])]) (by simp));have S5:=qK (show FI Im' (w4.setCell ⟨g,2,none⟩ (.slice A' l'.length c')) ⟨fpkg,A7,c7,fimps,A',c',l',A8,c8,ftail⟩ from⟨HEa.out.1.pkg,HEa.out.1.names,S4.out.1.kept q5 i5 (fun _ h=>h),S4.out.2.2.1.kept q5 i5 (fun _ h=>h),(zZ2 q5 i5 (fun _ h=>h)).2.2.2 _ S4.out.2.2.2,S4.out.2.1.kept q5 i5 (fun _ h=>h)⟩);clear h5 q5 i5 S4 B4;go_upto_region 12 with fail
    clear g2 k2;generalize w4.setCell ⟨g,2,none⟩ (.slice A' l'.length c')=w5 at B5 S5 ⊢;obtain⟨e0,e1,e2,e3⟩:=yG2 (B5.out.g _ (List.mem_cons_self ..)).1;have HGo:=qK (B5.out.g _ (List.mem_cons_of_mem _ (List.mem_cons_self ..)));have o1:=HGo.out.1.cell 1;have HAc:=qK (show Acc w5 0 58 4 (.slice Ao i co) i (fas.flatMap encF) from by have h:=B5.out.f.ac;rw[HL.out] at h;exact h);go_upto_region 13 with (at_builtin;refine zT3 _ rfl (.tmp 51) (.tmp 53) 22 rfl 0 58 4 88 elFile _ _ _ rfl (HAc.out.alloc _) _ 1 _ _ rfl (Src.lit _ 4 _ _ 1 rfl) (by simp[Value.oneCell']) (by simp only[maxLen];omega) qG (Nat.zero_le _) ?_;intro v' w6 hacc' hg' _ _ hob';have HA6:=qK (B5.out.f.app B5.out.b.st.zo B5.out.b.lo.size HGo.out.2.1.1.1 S5.out (by rw[HL.out];simpa[encF] using hacc') hg' hob');have hO6:=HA6.out.2.blk HGo.out.1 HGo.out.2.2;have y1:=hO6.cell 1;have z1:=hO6.free 1;obtain⟨A6,c6,hv6⟩:=hacc'.shape;subst hv6)
    clear e0 e1 e2 e3 o1 y1 z1;have hb6:=B5.out.b.write HA6.out.2 (fun b hb=>⟨(B5.out.f.ma b hb).1.2,(B5.out.f.ma b hb).1.1.2⟩);have hm6:=HGo.out.2.1.up HA6.out.2.size;have hk7:Kp (· = wS.heap.size) w6 (w6.setCell ⟨wS.heap.size,1,none⟩ (.slice A6 (i+1) c6)):=(Kp.refl (· = wS.heap.size) w6).setCell (p:=⟨wS.heap.size,1,none⟩) rfl _;have HB7:=qK (hb6.write hk7 fun b hb=>by subst hb;exact⟨hm6.2,hm6.1.2⟩);have HF7:=qK (HA6.out.1.write hk7 (fun b hb e=>(HA6.out.1.ma b hb).2 e) (fun b hb e=>by subst e;exact hm6.1.2.2 hb));have HO7:=qK (show Blk (w6.setCell ⟨wS.heap.size,1,none⟩ (.slice A6 (i+1) c6)) wS.heap.size 24 #[.string ⟨p.path.toArray⟩,.slice A6 (i+1) c6]∧_ from⟨by simpa using hO6.set_ 1 (.slice A6 (i+1) c6),hm6.up hk7.size⟩);clear hb6 hm6 hk7 hO6;go_wp2;go_roundw
    case rel=>exact⟨i+1,σ',Im',_,_,A6,c6,by omega,by go_num,HB7,HO7,HF7,V4,D4⟩
    case measure=>simp[intOf];omega
  ·obtain rfl:i=p.files.length:=by omega
   obtain⟨wE,hwE⟩:∃ wE,wE=wr:=⟨_,rfl⟩;subst hwE;have hV2:=Vi.out;rw[List.take_length] at hV2;have hcy:σi.ρ.cyc=true:=HCy.out _ _ _ _ _ _ 1099511627773 _ _ HRt.out.1 HRt.out.2 hV2;clear hV2 Vi hlt hi;have x0:=Bi.out.st.cl.1.cell 0;have r7:wE.cell? ⟨R.r,7,none⟩=some (.bool σi.ρ.cyc):=Bi.out.st.rs.rc.cell 7;have HA:=qK (HBr.out.keep Bi.out.lo);have HWA:=qK (HW.out.trans (Bi.out.lo.mono HW.out.size));rw[hcy] at r7;clear hcy;go_upto_region 15 with fail
   clear x0 r7;have y0:=(zD3 HA.out).1;have y1:=(zD3 HA.out).2;have zf0:=HA.out.free 0;have zf1:=HA.out.free 1;go_wp2;clear y0 y1 zf0 zf1;obtain⟨hB8,hK8⟩:=res2 HA.out (.string ⟨#[]⟩) (.slice none 0 0);have HR:=qK (HWA.out.trans (hK8.toBelow HWA.out.size fun b hb e=>by omega));obtain⟨z0,z1⟩:=zD3 hB8;refine bodyPost_ret (v:=.tuple #[.agg #[.string ⟨#[]⟩,.slice none 0 0],.int .i64 15]) ?_ rfl ⟨rfl,HR.out⟩;simp[results,Tryz.results25,go_sem,z0,z1]
theorem xU2 {R:RF}{U:UseR Bool}(hU:∀ (σ:GS Bool) e x f σ' e',U σ e x f σ' e'→σ.ρ.cyc=true→σ'.ρ.cyc=true) :
  (∀ e,∀ env lp file (σ σ':GS Bool) e',VisE R U e env lp file σ σ' e'→σ.ρ.cyc=true→σ'.ρ.cyc=true)∧(∀ d,∀ env lp file (σ σ':GS Bool) d',VisD R U d env lp file σ σ' d'→σ.ρ.cyc=true→σ'.ρ.cyc=true)∧
  (∀ l,∀ i nm env lp file (σ σ':GS Bool) l',zW9 R U l i nm env lp file σ σ' l'→σ.ρ.cyc=true→σ'.ρ.cyc=true)∧∀ l,∀ env lp file (σ σ':GS Bool) l',zX6 R U l env lp file σ σ' l'→σ.ρ.cyc=true→σ'.ρ.cyc=true:=visInv R (fun σ:GS Bool=>σ.ρ.cyc=true) hU
 (fun file t x σ h=>by
  show (zV3 file t x σ.ρ).cyc=true;unfold zV3;split
  ·exact h
  ·split <;> exact h)
 fun decls file env σ σ' env' hd h=>by
  obtain⟨sB,bF,bL,bs,gs,av,_,_,_,_,rfl⟩:=hd;exact h
theorem xU3 {R:RF}{U:UseR Bool}(hU:∀ (σ:GS Bool) e x f σ' e',U σ e x f σ' e'→σ.ρ.cyc=true→σ'.ρ.cyc=true)(σ:GS Bool)(e:EA)(x:Int × Int × Option Nat)(f:Nat)(σ':GS Bool)(e':EA)(h:RsC R U σ e x f σ' e')(hc:σ.ρ.cyc=true):σ'.ρ.cyc=true:=by
 cases e;obtain⟨k,dp,ob⟩:=x;cases ob with
 | none=>
   obtain⟨rfl,_⟩:=h;exact hc
 | some b=>
   obtain⟨σ1,e1,o,hr,_,_,h⟩:=h;have h1:σ1.ρ.cyc=true:=by
    obtain⟨o',_,_,hr⟩:=hr;rcases hr with ⟨_,rfl,_⟩ | ⟨_,_,rfl,_⟩ | ⟨_,_,e0,σ2,_,hv,rfl⟩
    ·rfl
    ·exact hc
    ·exact(xU2 hU).1 e0 _ _ _ {σ with ρ:=σ.ρ.at_ b actO} σ2 _ hv hc
   rcases h with ⟨_,rfl,_⟩ | ⟨_,rfl,_⟩ <;> exact h1
theorem xU4 (R:RF):∀ n (σ:GS Bool) e x f σ' e',RsU R n σ e x f σ' e'→σ.ρ.cyc=true→σ'.ρ.cyc=true
 | 0=>xU3 fun _ _ _ _ _ _ h=>h.elim
 | n+1=>xU3 (xU4 R n)
section
variable {R:RF}{env:List ScA}{bA bB rt n:Nat}{dA dB:DA}{aA aB:Bool}{ρ:RS}{σ σ':GS Bool}{e':EA}{s sA sB:Tx}{pos pA pB:Int}{U:UseR Bool}
def TwoL (bA bB rt:Nat)(dA dB:DA)(aA aB:Bool)(ρ:RS):Prop:=∀ o∈ρ.objs,o.done=false∧o.sc=rt∧o.file=0∧((o.blk=bA∧o.d=dA∧o.act=aA)∨(o.blk=bB∧o.d=dB∧o.act=aB))
theorem TwoL.swap (h:TwoL bA bB rt dA dB aA aB ρ):TwoL bB bA rt dB dA aB aA ρ:=fun o ho=>⟨(h o ho).1,(h o ho).2.1,(h o ho).2.2.1,(h o ho).2.2.2.symm⟩
theorem TwoL.mark (h:TwoL bA bB rt dA dB aA aB ρ)(file:Nat)(t:Tx)(x:Int × Int × Option Nat):TwoL bA bB rt dA dB aA aB (zV3 file t x ρ):=fun o ho=>by
 unfold zV3 at ho;split at ho
 ·obtain⟨y,hy,rfl⟩:=List.mem_map.1 ho;unfold zL2;split <;> exact h y hy
 ·split at ho <;> exact h o ho
theorem TwoL.actB (h:TwoL bA bB rt dA dB aA aB ρ)(hne:bA≠bB):TwoL bA bB rt dA dB aA true (ρ.at_ bB actO):=fun o ho=>by
 obtain⟨y,hy,rfl⟩:=List.mem_map.1 ho;obtain⟨h1,h2,h3,h4⟩:=h y hy;unfold atOb;split
 ·rename_i hb;refine⟨h1,h2,h3,.inr ?_⟩;rcases h4 with ⟨h5,_⟩ | ⟨h5,h6,_⟩
  ·exact absurd (h5.symm.trans hb) hne
  ·exact⟨h5,h6,rfl⟩
 ·rename_i hb;exact⟨h1,h2,h3,h4.imp id fun h5=>absurd h5.1 hb⟩
theorem yQ7 {b:Nat}(hf:(zW4 R.imps env [] 0 s).2.2=some b)(h:VisE R (RsU R (n+1)) (nmE s pos) env [] 0 σ σ' e'):∃ σ1 e1,ResO R (RsU R n) {σ with ρ:=zV3 0 s (zW4 R.imps env [] 0 s) σ.ρ} b σ1 e1∧(σ1.ρ.cyc=true→σ'.ρ.cyc=true):=by
 unfold nmE at h;rw[VisE] at h;rcases h with ⟨_,h⟩ | ⟨h,_⟩
 ·rw[RsU] at h;unfold RsC at h;simp only[hf] at h;obtain⟨σ1,e1,o,hr,_,_,h3⟩:=h;refine⟨σ1,e1,hr,fun hc=>?_⟩;rcases h3 with ⟨_,rfl,_⟩ | ⟨_,rfl,_⟩ <;> exact hc
 ·exact absurd rfl h
theorem TwoL.at_ {b:Nat}{o:Ob}(hT:TwoL bA bB rt dA dB aA aB ρ)(hne:bA≠bB)(ho:o∈ρ.objs)(hb:o.blk=b)(he:b=bB):o.done=false∧o.sc=rt∧o.file=0∧o.d=dB∧o.act=aB:=by
 obtain⟨h1,h2,h3,h4⟩:=hT o ho;refine⟨h1,h2,h3,?_⟩;rcases h4 with ⟨h5,_⟩ | ⟨_,h6,h7⟩
 ·exact absurd (h5.symm.trans (hb.trans he)) hne
 ·exact⟨h6,h7⟩
theorem res_go (hT:TwoL bA bB rt dA dB aA false σ.ρ)(hne:bA≠bB)(hd:zU3 dB=[nmE s pos])(hen:σ.en rt=env)(h:ResO R U σ bB σ' e'):∃ σ1,VisE R U (nmE s pos) env [] 0 {σ with ρ:=σ.ρ.at_ bB actO} σ1 e'∧(σ1.ρ.cyc=true→σ'.ρ.cyc=true):=by
 obtain⟨o,ho,hob,h⟩:=h;obtain⟨h1,h2,h3,h4,h5⟩:=hT.at_ hne ho hob rfl;rcases h with ⟨h,_⟩ | ⟨_,h,_⟩ | ⟨_,_,e0,σ1,h6,h7,rfl⟩
 ·rw[h5] at h;cases h
 ·rw[h1] at h;cases h
 ·rw[h4,hd] at h6;injection h6 with h6 _
  subst h6;rw[h2,h3,hen] at h7;exact⟨σ1,h7,fun h=>h⟩
theorem res_cyc (hT:TwoL bA bB rt dA dB aA true σ.ρ)(hne:bA≠bB)(h:ResO R U σ bB σ' e'):σ'.ρ.cyc=true:=by
 obtain⟨o,ho,hob,h⟩:=h;have h5:=(hT.at_ hne ho hob rfl).2.2.2.2;rcases h with ⟨_,rfl,_⟩ | ⟨h,_⟩ | ⟨h,_⟩
 ·rfl
 ·rw[h5] at h;cases h
 ·rw[h5] at h;cases h
theorem cyc2 (hne:bA≠bB)(hT:TwoL bA bB rt dA dB false false σ.ρ)(hen:σ.en rt=env)(hA:(zW4 R.imps env [] 0 sA).2.2=some bA)(hB:(zW4 R.imps env [] 0 sB).2.2=some bB)(hdA:zU3 dA=[nmE sB pB])(hdB:zU3 dB=[nmE sA pA])
  (h:VisE R (RsU R (n+3)) (nmE sB pos) env [] 0 σ σ' e'):σ'.ρ.cyc=true:=by
 obtain⟨σ1,e1,r1,k1⟩:=yQ7 hB h;obtain⟨σ2,v2,k2⟩:=res_go (σ:={σ with ρ:=zV3 0 sB (zW4 R.imps env [] 0 sB) σ.ρ}) (hT.mark 0 sB (zW4 R.imps env [] 0 sB)) hne hdB hen r1;obtain⟨σ3,e3,r3,k3⟩:=yQ7 hA v2;have T3:=((hT.mark 0 sB (zW4 R.imps env [] 0 sB)).actB hne).mark 0 sA (zW4 R.imps env [] 0 sA);obtain⟨σ4,v4,k4⟩:=res_go (σ:={σ with ρ:=zV3 0 sA (zW4 R.imps env [] 0 sA) ((zV3 0 sB (zW4 R.imps env [] 0 sB) σ.ρ).at_ bB actO)}) T3.swap hne.symm hdA hen r3;obtain⟨σ5,e5,r5,k5⟩:=yQ7 hB v4;exact k1 (k2 (k3 (k4 (k5 (res_cyc (σ:={σ with ρ:=zV3 0 sB (zW4 R.imps env [] 0 sB) ((zV3 0 sA (zW4 R.imps env [] 0 sA) ((zV3 0 sB (zW4 R.imps env [] 0 sB) σ.ρ).at_ bB actO)).at_ bA actO)}) ((T3.swap.actB hne.symm).swap.mark 0 sB (zW4 R.imps env [] 0 sB)) hne r5)))))
end
theorem ex2_cyc {R:RF}{σ0 σ:GS Unit}{env:List ScA}{rs0 rs:List (List DA)}{u:Value}{n:Nat}{σ':GS Bool}{A' A Aa Ab:Option Addr}{c:Nat}(hR:Root (pkA A' A c (ex2 Aa Ab)) R σ0 env)(hV:zO6 R U0 env 0 (pkA A' A c (ex2 Aa Ab)).files σ0 σ rs0)
  (hV2:zO6 (R.with_ u) (RsU (R.with_ u) (n+3)) env 0 (pkA A' A c (ex2 Aa Ab)).files (σ.put false) σ' rs):σ'.ρ.cyc=true:=by
 obtain⟨bF,bL,hev⟩:=hR.ev;have h2:σ0.ρ.objs.map (fun o=>(o.file,o.d))=[(0,letD [97] Aa (nmE [98] 0)),(0,letD [98] Ab (nmE [97] 0))]:=hR.o2;obtain⟨oA,oB,ho⟩:∃ oA oB,σ0.ρ.objs=[oA,oB]:=by
  have hl:=congrArg List.length h2;match σ0.ρ.objs,hl with
  | [x,y],_=>exact⟨x,y,rfl⟩
 have hen:=hR.en R.root;rw[if_pos rfl] at hen;have hpw:=hR.pw;have ho3:=hR.o3;rw[ho] at h2 hpw ho3 hev;have hne:oA.blk≠oB.blk:=by
  simp only[List.map_cons,List.map_nil,List.pairwise_cons,List.mem_singleton,forall_eq] at hpw;omega
 simp only[List.map_cons,List.map_nil,List.cons.injEq,Prod.mk.injEq,and_true] at h2;have hA:(zW4 (R.with_ u).imps env [] 0 [97]).2.2=some oA.blk:=by rw[hev];rfl
 have hB:(zW4 (R.with_ u).imps env [] 0 [98]).2.2=some oB.blk:=by rw[hev];rfl
 have hT:TwoL oA.blk oB.blk R.root (letD [97] Aa (nmE [98] 0)) (letD [98] Ab (nmE [97] 0)) false false σ0.ρ:=fun o hm=>by
  rw[ho] at hm;have h3:=ho3 o hm;simp only[List.mem_cons,List.not_mem_nil,or_false] at hm;rcases hm with rfl | rfl
  ·rw[h3];exact⟨rfl,rfl,h2.1.1,.inl ⟨rfl,h2.1.2,rfl⟩⟩
  ·rw[h3];exact⟨rfl,rfl,h2.2.1,.inr ⟨rfl,h2.2.2,rfl⟩⟩
 obtain⟨σ1,d1,r1,h3,h4,_⟩:=hV;have h4:=h4.1;have h5:zX6 R U0 [letD [97] Aa (nmE [98] 0),letD [98] Ab (nmE [97] 0)] env [] 0 σ0 σ1 d1:=h3;rw[zX6] at h5;obtain⟨τ1,q1,s1,g1,h5,_⟩:=h5;rw[zX6] at h5;obtain⟨τ2,q2,s2,g2,h5,_⟩:=h5;rw[zX6] at h5;obtain⟨_,k1⟩:=yQ6 g1;obtain⟨_,k2⟩:=yQ6 g2;rw[h4,h5.1,yV0 k2,yV0 k1] at hV2;obtain⟨σ3,d3,r3,h6,h7,_⟩:=hV2;rw[h7.1];have h8:zX6 (R.with_ u) (RsU (R.with_ u) (n+3)) [letD [97] Aa (nmE [98] 0),letD [98] Ab (nmE [97] 0)] env [] 0 _ σ3 d3:=h6;rw[zX6] at h8;obtain⟨τ3,q3,s3,g3,h8,_⟩:=h8;obtain⟨_,k3⟩:=yQ6 g3;refine(xU2 (xU4 (R.with_ u) (n+3))).2.2.2 _ _ _ _ _ _ _ h8 ?_;exact cyc2 (pA:=0) (pB:=0) (sA:=[97]) (dA:=letD [97] Aa (nmE [98] 0)) (dB:=letD [98] Ab (nmE [97] 0)) hne ((hT.mark _ _ _).mark _ _ _) hen hA hB rfl rfl k3
end Go.Proofs.YtdgehhgjgifikaaGreatDoor
