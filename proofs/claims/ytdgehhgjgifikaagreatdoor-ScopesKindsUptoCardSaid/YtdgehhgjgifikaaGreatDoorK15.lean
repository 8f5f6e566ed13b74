/- What the claim needs of:YS YT. -/
import Derived.Test.YtdgehhgjgifikaaGreatDoorK14
import Derived.StillTailTactics
namespace Go.Proofs.YtdgehhgjgifikaaGreatDoor
open Go.RowKit
theorem yK9 {objs:List Ob}{imps:List (List Tx)}{env:List ScA}{lp:List Tx}{file:Nat}{t:Tx}(hK:EnvK objs env):∀ c,(zW4 imps env lp file t).2.2=some c→∃ o∈objs,o.blk=c:=fun c hc=>by
 have hf:∀ env':List ScA,(∀ x∈env',x∈env)→(zQ0 t env').2.2=some c→∃ o∈objs,o.blk=c:=fun env'=>by
  induction env' with
  | nil=>intro _ h;simp[zQ0] at h
  | cons x r ih=>
    intro hs h;unfold zQ0 at h;cases hl:zU2 x.lets t with
    | some b=>
      rw[hl] at h;simp only[Option.some.injEq] at h;subst h;exact hK x (hs x (by simp)) (t,b) (zS9 hl)
    | none=>
      rw[hl] at h;simp only at h;split at h
      ·simp at h
      ·exact ih (fun y hy=>hs y (by simp[hy])) h
 unfold zW4 at hc;split at hc
 ·simp at hc
 ·split at hc
  ·split at hc <;> simp at hc
  ·exact hf env (fun _ h=>h) hc
theorem zF8 {w:World}{g:Nat}{ty:TypeId}{cs:Array Value}(h:Blk w g ty cs):w.frozen? ⟨g,0,none⟩=false∧w.frozen? ⟨g,1,none⟩=false∧w.frozen? ⟨g,2,none⟩=false∧w.frozen? ⟨g,3,none⟩=false∧w.frozen? ⟨g,4,none⟩=false∧w.frozen? ⟨g,5,none⟩=false∧w.frozen? ⟨g,6,none⟩=false∧w.frozen? ⟨g,7,none⟩=false∧w.frozen? ⟨g,8,none⟩=false:=⟨h.free 0,h.free 1,h.free 2,h.free 3,h.free 4,h.free 5,h.free 6,h.free 7,h.free 8⟩
theorem Fr.store9 {X:Type}{R:RF}{C:Clo X}{n s:Nat}{σ0 σ:GS X}{Im0 Im:Nat→Prop}{w wx:World}{g:Nat}{ty:TypeId}{z0 z1 z2 z3 z4 z5 z6 z7 z8:Value}(h:Fr R C n s σ0 Im0 w σ Im wx)(hg:w.heap.size≤g)(hm:Mine (zn R C σ Im) wx g)(hb:Blk wx g ty #[z0,z1,z2,z3,z4,z5,z6,z7,z8])(v0 v1 v2 v3 v4 v5 v6 v7 v8:Value) :
  Fr R C n s σ0 Im0 w σ Im (((((((((wx.setCell ⟨g,0,none⟩ v0).setCell ⟨g,1,none⟩ v1).setCell ⟨g,2,none⟩ v2).setCell ⟨g,3,none⟩ v3).setCell ⟨g,4,none⟩ v4).setCell ⟨g,5,none⟩ v5).setCell ⟨g,6,none⟩ v6).setCell ⟨g,7,none⟩ v7).setCell ⟨g,8,none⟩ v8)∧Blk (((((((((wx.setCell ⟨g,0,none⟩ v0).setCell ⟨g,1,none⟩ v1).setCell ⟨g,2,none⟩ v2).setCell ⟨g,3,none⟩ v3).setCell ⟨g,4,none⟩ v4).setCell ⟨g,5,none⟩ v5).setCell ⟨g,6,none⟩ v6).setCell ⟨g,7,none⟩ v7).setCell ⟨g,8,none⟩ v8) g ty #[v0,v1,v2,v3,v4,v5,v6,v7,v8]∧Kp (· = g) wx (((((((((wx.setCell ⟨g,0,none⟩ v0).setCell ⟨g,1,none⟩ v1).setCell ⟨g,2,none⟩ v2).setCell ⟨g,3,none⟩ v3).setCell ⟨g,4,none⟩ v4).setCell ⟨g,5,none⟩ v5).setCell ⟨g,6,none⟩ v6).setCell ⟨g,7,none⟩ v7).setCell ⟨g,8,none⟩ v8):=by
 have hk:Kp (· = g) wx (((((((((wx.setCell ⟨g,0,none⟩ v0).setCell ⟨g,1,none⟩ v1).setCell ⟨g,2,none⟩ v2).setCell ⟨g,3,none⟩ v3).setCell ⟨g,4,none⟩ v4).setCell ⟨g,5,none⟩ v5).setCell ⟨g,6,none⟩ v6).setCell ⟨g,7,none⟩ v7).setCell ⟨g,8,none⟩ v8):=((((((((((Kp.refl (· = g) wx).setCell (p:=⟨g,0,none⟩) rfl v0).setCell (p:=⟨g,1,none⟩) rfl v1).setCell (p:=⟨g,2,none⟩) rfl v2).setCell (p:=⟨g,3,none⟩) rfl v3).setCell (p:=⟨g,4,none⟩) rfl v4).setCell (p:=⟨g,5,none⟩) rfl v5).setCell (p:=⟨g,6,none⟩) rfl v6).setCell (p:=⟨g,7,none⟩) rfl v7).setCell (p:=⟨g,8,none⟩) rfl v8);refine⟨h.write hk fun b hb=>by subst hb;exact⟨hg,hm.2⟩,?_,hk⟩;have:=((((((((hb.set_ 0 v0).set_ 1 v1).set_ 2 v2).set_ 3 v3).set_ 4 v4).set_ 5 v5).set_ 6 v6).set_ 7 v7).set_ 8 v8;simpa using this
section
variable {X:Type}{R:RF}{C:Clo X}{n:Nat}{U:UseR X}{g:Nat}{lb:Array Value}
set_option maxRecDepth 100000 in
set_option maxHeartbeats 16000000 in
theorem yJ0 (hU:R.use=.func (.func g) #[] lb)(eg:∀ args w,(callFunc g args).run Tryz.prog w=.ok (.enter g args) w)(hC:yT9 R C n U g lb)(t:Tx)(m:Int)(a b:Tx)(As:Option Addr)(cs:Nat)(subs:List EA)(Ad:Option Addr)(cd:Nat)(decls:List DA)(At:Option Addr)(ct:Nat)(tail:List Tx)(pos:Int):zO1 R C n U (.mk 10 t m a b As cs subs Ad cd decls At ct tail pos):=by
 intro σ Im w s env v lp A c file hS hOk hE hK hne hlp hf hd hdl;have hSs:St R C n (s+1) σ Im w:=hS.less (by rw[wE];omega) qJ;obtain⟨w1,hw1⟩:∃ w1,(w.alloc (.cells #[.int .i64 10,.string ⟨t.toArray⟩,.int .i64 m,.string ⟨a.toArray⟩,.string ⟨b.toArray⟩,.slice As subs.length cs,.slice Ad decls.length cd,.slice At tail.length ct,.int .i64 pos] 67)).alloc (.cells #[.int .i64 0,.string ⟨#[]⟩,.int .i64 0,.string ⟨#[]⟩,.string ⟨#[]⟩,.slice none 0 0,.slice none 0 0,.slice none 0 0,.int .i64 0] 67)=w1:=⟨_,rfl⟩;have hb1:Below w.heap.size w w1:=by rw[←hw1];exact(((Below.refl w.heap.size w).alloc qJ _).alloc (by simp) _)
 have hz1:w1.heap.size=w.heap.size+1+1:=by rw[←hw1];simp
 have F1:=qK ((Fr.start hSs).below hb1);have M1:=qK (show Mine (zn R C σ Im) w1 w.heap.size∧Mine (zn R C σ Im) w1 (w.heap.size+1) from⟨hSs.zo.new_ qJ qG,hSs.zo.new_ qG qG⟩);have HB1:=qK (show Blk w1 w.heap.size 67 #[.int .i64 10,.string ⟨t.toArray⟩,.int .i64 m,.string ⟨a.toArray⟩,.string ⟨b.toArray⟩,.slice As subs.length cs,.slice Ad decls.length cd,.slice At tail.length ct,.int .i64 pos] from by rw[←hw1];exact(Blk.new w _ _).alloc _);have HZ1:=qK (show Blk w1 (w.heap.size+1) 67 #[.int .i64 0,.string ⟨#[]⟩,.int .i64 0,.string ⟨#[]⟩,.string ⟨#[]⟩,.slice none 0 0,.slice none 0 0,.slice none 0 0,.int .i64 0] from by
  rw[←hw1];have:=Blk.new (w.alloc (.cells #[.int .i64 10,.string ⟨t.toArray⟩,.int .i64 m,.string ⟨a.toArray⟩,.string ⟨b.toArray⟩,.slice As subs.length cs,.slice Ad decls.length cd,.slice At tail.length ct,.int .i64 pos] 67)) 67 #[.int .i64 0,.string ⟨#[]⟩,.int .i64 0,.string ⟨#[]⟩,.string ⟨#[]⟩,.slice none 0 0,.slice none 0 0,.slice none 0 0,.int .i64 0];rw[World.size_alloc] at this;exact this)
 have hkN:Kp (fun _=>False) w w1:=Kp.ofBelow hb1 _;have HOk1:=qK ((zZ2 hkN (fun _ _ h=>h) (fun _ h=>h)).1 _ hOk);have hE1:=hE.kept hkN (fun _ _ h=>h) (fun _ h=>h);have hlp1:=hlp.kept hkN (fun _ _ h=>h) (fun _ h=>h);have cF:=find_any R σ.ρ σ.av env v lp A c file 10 t m a b As subs.length cs Ad decls.length cd At tail.length ct pos w1 F1.out.st.rs hE1.1 hK hlp1.n hf HOk1.out.1.1 qG;have HFd:=qK (yK9 (imps:=R.imps) (lp:=lp) (file:=file) (t:=t) hK);have HF:=qK hf;have HVis:=qK (show ∀ σ' e',U {σ with ρ:=zV3 file t (zW4 R.imps env lp file t) σ.ρ} (.mk 10 t m a b As cs subs Ad cd decls At ct tail pos) (zW4 R.imps env lp file t) file σ' e'→VisE R U (.mk 10 t m a b As cs subs Ad cd decls At ct tail pos) env lp file σ σ' e' from fun σ' e' h=>by
  rw[VisE];exact .inl ⟨rfl,h⟩)
 obtain⟨vA,rfl⟩:∃ s,v=.pointer (some ⟨s,0,none⟩):=by
  cases env with
  | nil=>exact absurd rfl hne
  | cons x r=>exact⟨x.blk,hE.1.1⟩
 clear hS hSs hOk hE hK hne hlp hd hdl hkN hE1 hlp1 hf hb1;change Calls Tryz.prog 93 #[.pointer (some ⟨R.r,0,none⟩),.agg #[.int .i64 10,.string ⟨t.toArray⟩,.int .i64 m,.string ⟨a.toArray⟩,.string ⟨b.toArray⟩,.slice As subs.length cs,.slice Ad decls.length cd,.slice At tail.length ct,.int .i64 pos],.pointer (some ⟨vA,0,none⟩),.slice A lp.length c,.int .i64 (file:Nat)] w _;go_enter Tryz.func93,Tryz.ntmps93
 go_upto_region 1 with fail
 clear hw1;obtain⟨x,hx⟩:∃ x,zW4 R.imps env lp file t=x:=⟨_,rfl⟩;have HX:=qK hx;obtain⟨kd,dp,ob⟩:=x;unfold xY6 at cF;rw[hx] at cF;have HKd:=qK (show 0≤kd∧kd < 5 from by have h:=yC2 R.imps env lp file t;rw[hx] at h;exact h);clear hx;obtain⟨e0,e1,e2,e3,e4,e5,e6,e7,e8⟩:=zZ6 HB1.out;cases ob with
 | none=>
   go_wp2_with fail
   refine cF.mono ?_;rintro e w2 ⟨rfl,hk2,hr2⟩;dsimp only[yT6];obtain⟨S2,Q2,G2⟩:=F1.out.st.find file t (kd,dp,none) hk2 hr2;have F2:=qK (F1.out.step S2 Q2 G2);have hE2:Blk w2 w.heap.size 67 #[.int .i64 10,.string ⟨t.toArray⟩,.int .i64 m,.string ⟨a.toArray⟩,.string ⟨b.toArray⟩,.slice As subs.length cs,.slice Ad decls.length cd,.slice At tail.length ct,.int .i64 pos]:=Q2.kp.blk HB1.out M1.out.1.2.1;have hZ2:Blk w2 (w.heap.size+1) 67 #[.int .i64 0,.string ⟨#[]⟩,.int .i64 0,.string ⟨#[]⟩,.string ⟨#[]⟩,.slice none 0 0,.slice none 0 0,.slice none 0 0,.int .i64 0]:=Q2.kp.blk HZ1.out M1.out.2.2.1;have M2:=qK (show Mine _ _ _∧Mine _ _ _ from⟨Q2.own M1.out.1,Q2.own M1.out.2⟩);have HOk2:=qK ((zZ2 Q2.kp (fun b hb hm=>(F1.out.st.zo.mu b hm).2 hb) (fun _ h=>h)).1 _ HOk1.out);have HKn:=qK (show ∀ c,(none:Option Nat)=some c→∃ o∈(zV3 file t (kd,dp,none) σ.ρ).objs,o.blk=c from fun c hc=>by
    obtain⟨o,ho,e⟩:=HFd.out c (by rw[HX.out];exact hc);obtain⟨o',ho',e'⟩:=G2.ob o ho;exact⟨o',ho',e'.trans e⟩)
   clear hk2 hr2 S2 Q2 G2 cF e0 e1 e2 e3 e4 e5 e6 e7 e8;obtain⟨e0,e1,e2,e3,e4,e5,e6,e7,e8⟩:=zZ6 hE2;go_upto_region 3 with fail
   have hba:Below w2.heap.size w2 (w2.alloc (.cells #[.int .i64 (file:Nat),.int .i64 pos,.string ⟨t.toArray⟩,.int .i64 kd,.int .i64 dp] 52)).drew:=(qH.alloc qJ _).drew;have F3:=qK (F2.out.below hba);have hE3:=hE2.keep hba;have HZ3:=qK (hZ2.keep hba);have M3:=qK (show Mine _ _ _∧Mine _ _ _ from⟨M2.out.1.up hba.size,M2.out.2.up hba.size⟩);have HOk3:=qK ((zZ2 (N:=fun _=>False) (Kp.ofBelow hba _) (fun _ _ h=>h) (fun _ h=>h)).1 _ HOk2.out);have hU3:Blk (w2.alloc (.cells #[.int .i64 (file:Nat),.int .i64 pos,.string ⟨t.toArray⟩,.int .i64 kd,.int .i64 dp] 52)).drew w2.heap.size 52 #[.int .i64 (file:Nat),.int .i64 pos,.string ⟨t.toArray⟩,.int .i64 kd,.int .i64 dp]:=Blk.new w2 _ _;clear e0 e1 e2 e3 e4 e5 e6 e7 e8 hE2 hZ2 M2 HOk2 F2;refine wp_region_still_tail 7 qF qF ?_;simp only[List.take_succ_cons,List.take_zero,List.drop_succ_cons,List.drop_zero];change wpStill _ _ (w2.alloc (.cells #[.int .i64 (file:Nat),.int .i64 pos,.string ⟨t.toArray⟩,.int .i64 kd,.int .i64 dp] 52)).drew (fun a'=>wpList _ _ _ _ a' (w2.alloc (.cells #[.int .i64 (file:Nat),.int .i64 pos,.string ⟨t.toArray⟩,.int .i64 kd,.int .i64 dp] 52)).drew) _ _;generalize (w2.alloc (.cells #[.int .i64 (file:Nat),.int .i64 pos,.string ⟨t.toArray⟩,.int .i64 kd,.int .i64 dp] 52)).drew=w3 at F3 hE3 HZ3 M3 HOk3 hU3 hba ⊢;obtain⟨e0,e1,e2,e3,e4,e5,e6,e7,e8⟩:=zZ6 hE3;obtain⟨u0,u1,u2,u3,u4⟩:=useC hU3;have r8:=F3.out.st.rs.rc.cell 8;rw[hU] at r8;repeat still_step
   try refine wpStill_nil ?_
   have cC:=hC _ Im w3 s 10 t m a b As cs subs Ad cd decls At ct tail pos (kd,dp,none) file F3.out.st HOk3.out HKn.out HF.out HKd.out;go_wp2_with fail
   refine cC.mono ?_;rintro e w4 ⟨σ',Im',e',rfl,hU4,hS4,hQ4,hG4,hO4⟩;have F4:=F3.out.step hS4 hQ4 hG4;have hZ4:=hQ4.kp.blk HZ3.out M3.out.2.2.1;have hM4:=hQ4.own M3.out.2;cases e' with
   | mk xk xt xm xa xb xAs xcs xsubs xAd xcd xdecls xAt xct xtail xpos=>
     obtain⟨zf0,zf1,zf2,zf3,zf4,zf5,zf6,zf7,zf8⟩:=zF8 hZ4;obtain⟨y0,y1,y2,y3,y4,y5,y6,y7,y8⟩:=zZ6 hZ4;have H4:=qK (show _∧_∧_∧_∧_ from⟨hU4,F4,hZ4,hM4,hO4⟩);clear hU4 hS4 hQ4 hG4 hO4 F4 hZ4 hM4;clear cC e0 e1 e2 e3 e4 e5 e6 e7 e8 u0 u1 u2 u3 u4 r8;dsimp only[encE];go_wp2;obtain⟨hU4,F4,hZ4,hM4,hO4⟩:=H4.out;obtain⟨F5,hB5,hK5⟩:=F4.store9 qG hM4 hZ4 (.int .i64 xk) (.string ⟨xt.toArray⟩) (.int .i64 xm) (.string ⟨xa.toArray⟩) (.string ⟨xb.toArray⟩) (.slice xAs xsubs.length xcs) (.slice xAd xdecls.length xcd) (.slice xAt xtail.length xct) (.int .i64 xpos);have HR:=qK (show RetE R C n s σ Im w (VisE R U (.mk 10 t m a b As cs subs Ad cd decls At ct tail pos) env lp file σ) (.returned (.agg #[.int .i64 xk,.string ⟨xt.toArray⟩,.int .i64 xm,.string ⟨xa.toArray⟩,.string ⟨xb.toArray⟩,.slice xAs xsubs.length xcs,.slice xAd xdecls.length xcd,.slice xAt xtail.length xct,.int .i64 xpos])) _ from⟨σ',Im',.mk xk xt xm xa xb xAs xcs xsubs xAd xcd xdecls xAt xct xtail xpos,rfl,HVis.out _ _ (by rw[HX.out];exact hU4),F5.st,F5.sp,F5.gr,(zZ2 hK5 (fun b hb e=>hM4.2.2 (e▸hb)) (fun _ h=>h)).1 _ hO4⟩);obtain⟨z0,z1,z2,z3,z4,z5,z6,z7,z8⟩:=zZ6 hB5;clear zf0 zf1 zf2 zf3 zf4 zf5 zf6 zf7 zf8 y0 y1 y2 y3 y4 y5 y6 y7 y8;refine bodyPost_ret (v:=.agg #[.int .i64 xk,.string ⟨xt.toArray⟩,.int .i64 xm,.string ⟨xa.toArray⟩,.string ⟨xb.toArray⟩,.slice xAs xsubs.length xcs,.slice xAd xdecls.length xcd,.slice xAt xtail.length xct,.int .i64 xpos]) ?_ rfl HR.out;simp[results,Tryz.results93,go_sem,z0,z1,z2,z3,z4,z5,z6,z7,z8]
 | some c1=>
   go_wp2_with fail
   refine cF.mono ?_;rintro e w2 ⟨rfl,hk2,hr2⟩;dsimp only[yT6];obtain⟨S2,Q2,G2⟩:=F1.out.st.find file t (kd,dp,(some c1)) hk2 hr2;have F2:=qK (F1.out.step S2 Q2 G2);have hE2:Blk w2 w.heap.size 67 #[.int .i64 10,.string ⟨t.toArray⟩,.int .i64 m,.string ⟨a.toArray⟩,.string ⟨b.toArray⟩,.slice As subs.length cs,.slice Ad decls.length cd,.slice At tail.length ct,.int .i64 pos]:=Q2.kp.blk HB1.out M1.out.1.2.1;have hZ2:Blk w2 (w.heap.size+1) 67 #[.int .i64 0,.string ⟨#[]⟩,.int .i64 0,.string ⟨#[]⟩,.string ⟨#[]⟩,.slice none 0 0,.slice none 0 0,.slice none 0 0,.int .i64 0]:=Q2.kp.blk HZ1.out M1.out.2.2.1;have M2:=qK (show Mine _ _ _∧Mine _ _ _ from⟨Q2.own M1.out.1,Q2.own M1.out.2⟩);have HOk2:=qK ((zZ2 Q2.kp (fun b hb hm=>(F1.out.st.zo.mu b hm).2 hb) (fun _ h=>h)).1 _ HOk1.out);have HKn:=qK (show ∀ c,((some c1):Option Nat)=some c→∃ o∈(zV3 file t (kd,dp,(some c1)) σ.ρ).objs,o.blk=c from fun c hc=>by
    obtain⟨o,ho,e⟩:=HFd.out c (by rw[HX.out];exact hc);obtain⟨o',ho',e'⟩:=G2.ob o ho;exact⟨o',ho',e'.trans e⟩)
   clear hk2 hr2 S2 Q2 G2 cF e0 e1 e2 e3 e4 e5 e6 e7 e8;obtain⟨e0,e1,e2,e3,e4,e5,e6,e7,e8⟩:=zZ6 hE2;go_upto_region 3 with fail
   have hba:Below w2.heap.size w2 (w2.alloc (.cells #[.int .i64 (file:Nat),.int .i64 pos,.string ⟨t.toArray⟩,.int .i64 kd,.int .i64 dp] 52)).drew:=(qH.alloc qJ _).drew;have F3:=qK (F2.out.below hba);have hE3:=hE2.keep hba;have HZ3:=qK (hZ2.keep hba);have M3:=qK (show Mine _ _ _∧Mine _ _ _ from⟨M2.out.1.up hba.size,M2.out.2.up hba.size⟩);have HOk3:=qK ((zZ2 (N:=fun _=>False) (Kp.ofBelow hba _) (fun _ _ h=>h) (fun _ h=>h)).1 _ HOk2.out);have hU3:Blk (w2.alloc (.cells #[.int .i64 (file:Nat),.int .i64 pos,.string ⟨t.toArray⟩,.int .i64 kd,.int .i64 dp] 52)).drew w2.heap.size 52 #[.int .i64 (file:Nat),.int .i64 pos,.string ⟨t.toArray⟩,.int .i64 kd,.int .i64 dp]:=Blk.new w2 _ _;clear e0 e1 e2 e3 e4 e5 e6 e7 e8 hE2 hZ2 M2 HOk2 F2;refine wp_region_still_tail 7 qF qF ?_;simp only[List.take_succ_cons,List.take_zero,List.drop_succ_cons,List.drop_zero];change wpStill _ _ (w2.alloc (.cells #[.int .i64 (file:Nat),.int .i64 pos,.string ⟨t.toArray⟩,.int .i64 kd,.int .i64 dp] 52)).drew (fun a'=>wpList _ _ _ _ a' (w2.alloc (.cells #[.int .i64 (file:Nat),.int .i64 pos,.string ⟨t.toArray⟩,.int .i64 kd,.int .i64 dp] 52)).drew) _ _;generalize (w2.alloc (.cells #[.int .i64 (file:Nat),.int .i64 pos,.string ⟨t.toArray⟩,.int .i64 kd,.int .i64 dp] 52)).drew=w3 at F3 hE3 HZ3 M3 HOk3 hU3 hba ⊢;obtain⟨e0,e1,e2,e3,e4,e5,e6,e7,e8⟩:=zZ6 hE3;obtain⟨u0,u1,u2,u3,u4⟩:=useC hU3;have r8:=F3.out.st.rs.rc.cell 8;rw[hU] at r8;repeat still_step
   try refine wpStill_nil ?_
   have cC:=hC _ Im w3 s 10 t m a b As cs subs Ad cd decls At ct tail pos (kd,dp,(some c1)) file F3.out.st HOk3.out HKn.out HF.out HKd.out;go_wp2_with fail
   refine cC.mono ?_;rintro e w4 ⟨σ',Im',e',rfl,hU4,hS4,hQ4,hG4,hO4⟩;have F4:=F3.out.step hS4 hQ4 hG4;have hZ4:=hQ4.kp.blk HZ3.out M3.out.2.2.1;have hM4:=hQ4.own M3.out.2;cases e' with
   | mk xk xt xm xa xb xAs xcs xsubs xAd xcd xdecls xAt xct xtail xpos=>
     obtain⟨zf0,zf1,zf2,zf3,zf4,zf5,zf6,zf7,zf8⟩:=zF8 hZ4;obtain⟨y0,y1,y2,y3,y4,y5,y6,y7,y8⟩:=zZ6 hZ4;have H4:=qK (show _∧_∧_∧_∧_ from⟨hU4,F4,hZ4,hM4,hO4⟩);clear hU4 hS4 hQ4 hG4 hO4 F4 hZ4 hM4;clear cC e0 e1 e2 e3 e4 e5 e6 e7 e8 u0 u1 u2 u3 u4 r8;dsimp only[encE];go_wp2;obtain⟨hU4,F4,hZ4,hM4,hO4⟩:=H4.out;obtain⟨F5,hB5,hK5⟩:=F4.store9 qG hM4 hZ4 (.int .i64 xk) (.string ⟨xt.toArray⟩) (.int .i64 xm) (.string ⟨xa.toArray⟩) (.string ⟨xb.toArray⟩) (.slice xAs xsubs.length xcs) (.slice xAd xdecls.length xcd) (.slice xAt xtail.length xct) (.int .i64 xpos);have HR:=qK (show RetE R C n s σ Im w (VisE R U (.mk 10 t m a b As cs subs Ad cd decls At ct tail pos) env lp file σ) (.returned (.agg #[.int .i64 xk,.string ⟨xt.toArray⟩,.int .i64 xm,.string ⟨xa.toArray⟩,.string ⟨xb.toArray⟩,.slice xAs xsubs.length xcs,.slice xAd xdecls.length xcd,.slice xAt xtail.length xct,.int .i64 xpos])) _ from⟨σ',Im',.mk xk xt xm xa xb xAs xcs xsubs xAd xcd xdecls xAt xct xtail xpos,rfl,HVis.out _ _ (by rw[HX.out];exact hU4),F5.st,F5.sp,F5.gr,(zZ2 hK5 (fun b hb e=>hM4.2.2 (e▸hb)) (fun _ h=>h)).1 _ hO4⟩);obtain⟨z0,z1,z2,z3,z4,z5,z6,z7,z8⟩:=zZ6 hB5;clear zf0 zf1 zf2 zf3 zf4 zf5 zf6 zf7 zf8 y0 y1 y2 y3 y4 y5 y6 y7 y8;refine bodyPost_ret (v:=.agg #[.int .i64 xk,.string ⟨xt.toArray⟩,.int .i64 xm,.string ⟨xa.toArray⟩,.string ⟨xb.toArray⟩,.slice xAs xsubs.length xcs,.slice xAd xdecls.length xcd,.slice xAt xtail.length xct,.int .i64 xpos]) ?_ rfl HR.out;simp[results,Tryz.results93,go_sem,z0,z1,z2,z3,z4,z5,z6,z7,z8]
end
theorem hE_mk (k:Int)(t:Tx)(m:Int)(a b:Tx)(As:Option Addr)(cs:Nat)(subs:List EA)(Ad:Option Addr)(cd:Nat)(decls:List DA)(At:Option Addr)(ct:Nat)(tail:List Tx)(pos:Int):hE (.mk k t m a b As cs subs Ad cd decls At ct tail pos)=1+max (hEs subs) (hDs decls):=by rw[hE]
theorem hE_le:∀ {l:List EA}{e:EA},e∈l→hE e≤hEs l
 | x ::l,e,h=>by
   unfold hEs;rcases List.mem_cons.1 h with rfl | h
   ·omega
   ·have:=hE_le h;omega
theorem sl_two {w:World}{g:Nat}{ty:TypeId}{cs:Array Value}{x y:Tx}(h:Blk w g ty cs)(h3:w.cell? ⟨g,3,none⟩=some (.string ⟨x.toArray⟩))(h4:w.cell? ⟨g,4,none⟩=some (.string ⟨y.toArray⟩)):Sl w w.heap.size 1 encS (some ⟨g,3,none⟩) [x,y]:=by
 refine .inr ⟨g,3,rfl,h.lt,fun i hi j v hv=>?_⟩;have hj:j=0:=by
  have:=(List.getElem?_eq_some_iff.1 hv).1;simp[encS] at this;exact this
 subst hj;have hi2:i=0∨i=1:=by simp at hi;omega
 rcases hi2 with rfl | rfl
 ·simp[encS] at hv;subst hv;exact h3
 ·simp[encS] at hv;subst hv;exact h4
theorem elExpr:ElT Tryz.prog 65 67 9 144:=ElT.mk_ (z:=.agg #[.int .i64 0,.string ByteArray.empty,.int .i64 0,.string ByteArray.empty,.string ByteArray.empty,.slice none 0 0,.slice none 0 0,.slice none 0 0,.int .i64 0]) Tryz.underlying65 qF qF (by decide)
section
variable {X:Type}{R:RF}{C:Clo X}{n s s':Nat}{σ0 σ σ':GS X}{Im0 Im Im' N:Nat→Prop}{w wx wy:World}{E Z:Array Value}{e:EA}{env:List ScA}{ve:Value}{lp:List Tx}{A:Option Addr}
structure Ex0 (R:RF)(C:Clo X)(n s:Nat)(σ0:GS X)(Im0:Nat→Prop)(w:World)(E Z:Array Value)(e:EA)(env:List ScA)(ve:Value)(lp:List Tx)(A:Option Addr)(σ:GS X)(Im:Nat→Prop)(wx:World):Prop where
 fr:Fr R C n s σ0 Im0 w σ Im wx
 he:Blk wx w.heap.size 67 E
 hz:Blk wx (w.heap.size+1) 67 Z
 me:Mine (zn R C σ Im) wx w.heap.size
 mz:Mine (zn R C σ Im) wx (w.heap.size+1)
 tr:OkI Im wx e
 en:EnvI Im wx ve env
 kn:EnvK σ.ρ.objs env
 lp:SlI Im wx 1 encS A lp
theorem Ex0.move (h:Ex0 R C n s σ0 Im0 w E Z e env ve lp A σ Im wx)(fr:Fr R C n s' σ0 Im0 w σ' Im' wy)(hk:Kp N wx wy)(hN:∀ b,Im b→¬ N b)(hI:∀ b,Im b→Im' b)(h1:¬ N w.heap.size)(h2:¬ N (w.heap.size+1))(me:Mine (zn R C σ' Im') wy w.heap.size)(mz:Mine (zn R C σ' Im') wy (w.heap.size+1))(kn:EnvK σ'.ρ.objs env):Ex0 R C n s' σ0 Im0 w E Z e env ve lp A σ' Im' wy:=
 ⟨fr,hk.blk h.he h1,hk.blk h.hz h2,me,mz,(zZ2 hk hN hI).1 _ h.tr,h.en.kept hk hN hI,kn,h.lp.kept hk hN hI⟩
theorem Ex0.below (h:Ex0 R C n s σ0 Im0 w E Z e env ve lp A σ Im wx)(hb:Below wx.heap.size wx wy):Ex0 R C n s σ0 Im0 w E Z e env ve lp A σ Im wy:=
 h.move (N:=fun _=>False) (h.fr.below hb) (Kp.ofBelow hb _) (fun _ _ h=>h) (fun _ h=>h) id id (h.me.up hb.size) (h.mz.up hb.size) h.kn
theorem Ex0.step (h:Ex0 R C n s σ0 Im0 w E Z e env ve lp A σ Im wx)(h1:St R C n s' σ' Im' wy)(h2:Sp (zn R C σ Im) wx (zn R C σ' Im') wy)(h3:Gr wx σ σ'):Ex0 R C n s' σ0 Im0 w E Z e env ve lp A σ' Im' wy:=
 h.move (h.fr.step h1 h2 h3) h2.kp (fun b hb hm=>(h.fr.st.zo.mu b hm).2 hb) h2.im h.me.2.1 h.mz.2.1 (h2.own h.me) (h2.own h.mz) (h.kn.gr h3)
theorem Ex0.freeze (h:Ex0 R C n s σ0 Im0 w E Z e env ve lp A σ Im wx){F:Nat→Prop}(hF:∀ b,F b→Mine (zn R C σ Im) wx b∧w.heap.size+2≤b):Ex0 R C n s σ0 Im0 w E Z e env ve lp A σ (fun b=>Im b∨F b) wx:=
 h.move (N:=fun _=>False) (h.fr.freeze fun b hb=>⟨(hF b hb).1,by have:=(hF b hb).2;omega⟩) (Kp.refl _ _) (fun _ _ h=>h) (fun _ h=>.inl h) id id
  ⟨h.me.1,h.me.2.1,fun hh=>hh.elim h.me.2.2 fun h4=>by have:=(hF _ h4).2;omega⟩ ⟨h.mz.1,h.mz.2.1,fun hh=>hh.elim h.mz.2.2 fun h4=>by have:=(hF _ h4).2;omega⟩ h.kn
theorem Ex0.write (h:Ex0 R C n s σ0 Im0 w E Z e env ve lp A σ Im wx)(hk:Kp N wx wy)(hN:∀ b,N b→Mine (zn R C σ Im) wx b∧w.heap.size+2≤b):Ex0 R C n s σ0 Im0 w E Z e env ve lp A σ Im wy:=
 h.move (h.fr.write hk fun b hb=>⟨by have:=(hN b hb).2;omega,(hN b hb).1.2⟩) hk (fun b hb hn=>(hN b hn).1.2.2 hb) (fun _ h=>h) (fun hn=>by have:=(hN _ hn).2;omega) (fun hn=>by have:=(hN _ hn).2;omega) (h.me.up hk.size) (h.mz.up hk.size) h.kn
theorem Ex0.setE (h:Ex0 R C n s σ0 Im0 w E Z e env ve lp A σ Im wx)(i:Nat)(v:Value):Ex0 R C n s σ0 Im0 w (E.setIfInBounds i v) Z e env ve lp A σ Im (wx.setCell ⟨w.heap.size,i,none⟩ v):=by
 have hk:Kp (· = w.heap.size) wx (wx.setCell ⟨w.heap.size,i,none⟩ v):=(Kp.refl (· = w.heap.size) wx).setCell (p:=⟨w.heap.size,i,none⟩) rfl v;have hN:∀ b,Im b→¬ b=w.heap.size:=fun b hb e=>h.me.2.2 (e▸hb);exact⟨h.fr.cell qJ h.me i v,h.he.set_ i v,h.hz.far (by show w.heap.size+1≠w.heap.size;omega) v,h.me.up hk.size,h.mz.up hk.size,(zZ2 hk hN (fun _ h=>h)).1 _ h.tr,h.en.kept hk hN (fun _ h=>h),h.kn,h.lp.kept hk hN (fun _ h=>h)⟩
theorem Ex0.cast {E':Array Value}(h:Ex0 R C n s σ0 Im0 w E Z e env ve lp A σ Im wx)(he:E=E'):Ex0 R C n s σ0 Im0 w E' Z e env ve lp A σ Im wx:=he▸h
theorem Ex0.less (h:Ex0 R C n s σ0 Im0 w E Z e env ve lp A σ Im wx)(hs:s'≤s):Ex0 R C n s' σ0 Im0 w E Z e env ve lp A σ Im wx:=⟨h.fr.less hs,h.he,h.hz,h.me,h.mz,h.tr,h.en,h.kn,h.lp⟩
structure RowE (R:RF)(C:Clo X)(w:World)(v:Value)(l':List EA)(σ:GS X)(Im:Nat→Prop)(wx:World):Prop where
 ac:Acc wx 0 67 9 v l'.length (l'.flatMap encE)
 ma:∀ b,v.ownBlock=some b→Mine (zn R C σ Im) wx b∧w.heap.size+2≤b
 ok:OkIs Im wx l'
theorem zE9 {base ty size k:Nat}{v:Value}{xs:List Value}(h:Acc wx base ty size v k xs)(hk:Kp N wx wy)(hN:∀ b,v.ownBlock=some b→¬ N b):Acc wy base ty size v k xs:=by
 rcases h with h | ⟨hl,g,off,rfl,hlt,hc⟩
 ·exact .inl (zU4 h hk hN)
 ·exact .inr ⟨hl,g,off,rfl,Nat.lt_of_lt_of_le hlt hk.size,fun j u hu=>(hk.cell (p:=⟨g,off+j,none⟩) hlt (hN g rfl)).trans (hc j u hu)⟩
variable {v v':Value}{l':List EA}
theorem RowE.nil_:RowE R C w (.slice none 0 0) [] σ Im wx:=⟨Acc.nil_ _ _ _ _,fun b hb=>(by cases hb),trivial⟩
theorem RowE.below (h:RowE R C w v l' σ Im wx)(hb:Below wx.heap.size wx wy):RowE R C w v l' σ Im wy:=
 ⟨h.ac.below hb,fun b hv=>⟨(h.ma b hv).1.up hb.size,(h.ma b hv).2⟩,(zZ2 (N:=fun _=>False) (Kp.ofBelow hb _) (fun _ _ h=>h) (fun _ h=>h)).2.2.1 _ h.ok⟩
theorem RowE.step (h:RowE R C w v l' σ Im wx)(hz:(zn R C σ Im).Ok wx)(h2:Sp (zn R C σ Im) wx (zn R C σ' Im') wy):RowE R C w v l' σ' Im' wy:=
 ⟨zE9 h.ac h2.kp fun b hb=>(h.ma b hb).1.2.1,fun b hb=>⟨h2.own (h.ma b hb).1,(h.ma b hb).2⟩,(zZ2 h2.kp (fun b hb hm=>(hz.mu b hm).2 hb) h2.im).2.2.1 _ h.ok⟩
theorem RowE.freeze (h:RowE R C w v l' σ Im wx){F:Nat→Prop}(hF:∀ b,v.ownBlock=some b→¬ F b):RowE R C w v l' σ (fun b=>Im b∨F b) wx:=
 ⟨h.ac,fun b hb=>⟨⟨(h.ma b hb).1.1,(h.ma b hb).1.2.1,fun hh=>hh.elim (h.ma b hb).1.2.2 (hF b hb)⟩,(h.ma b hb).2⟩,(zZ2 (N:=fun _=>False) (Kp.refl _ _) (fun _ _ h=>h) (fun _ h=>.inl h)).2.2.1 _ h.ok⟩
theorem RowE.app (h:RowE R C w v l' σ Im wx)(hz:(zn R C σ Im).Ok wx)(hw:w.heap.size+2≤wx.heap.size){e':EA}(he:OkI Im wx e'){o:Obj}(hac:Acc wy 0 67 9 v' (l'.length+1) (l'.flatMap encE++encE e'))(hg:(wx.alloc o).grownBy wy v.ownBlock)(hob:v'.ownBlock=v.ownBlock∨∃ g,v'.ownBlock=some g∧(wx.alloc o).heap.size≤g) :
  RowE R C w v' (l'++ [e']) σ Im wy∧Kp (fun b=>v.ownBlock=some b) wx wy:=by
 have hk:Kp (fun b=>v.ownBlock=some b) wx wy:=((Kp.refl _ wx).alloc o).grown hg fun k hk=>.inl hk;have hN:∀ b,Im b→¬ v.ownBlock=some b:=fun b hb hv=>(h.ma b hv).1.2.2 hb;refine⟨⟨?_,fun b hb=>?_,((zZ2 hk hN (fun _ h=>h)).2.2.1 _ h.ok).snoc ((zZ2 hk hN (fun _ h=>h)).1 _ he)⟩,hk⟩
 ·exact xG
 ·exact vN
theorem RowE.done (h:RowE R C w v l' σ Im wx)(hl:l'.length≤1048576):∃ A c,v=.slice A l'.length c∧SlI (fun b=>Im b∨v.ownBlock=some b) wx 9 encE A l':=by
 obtain⟨A,c,rfl⟩:=h.ac.shape;refine⟨A,c,rfl,(zG1 zN0 h.ac (by decide)).2,hl,.inr fun a ha=>?_⟩;subst ha;exact .inr rfl
structure ResE (AS:Option Addr)(l':List EA)(A7:Option Addr)(tl:List Tx)(Im:Nat→Prop)(wx:World):Prop where
 sl:SlI Im wx 9 encE AS l'
 ok:OkIs Im wx l'
 tl:SlI Im wx 1 encS A7 tl
theorem ResE.kept {AS A7:Option Addr}{tl:List Tx}(h:ResE AS l' A7 tl Im wx)(hk:Kp N wx wy)(hN:∀ b,Im b→¬ N b)(hI:∀ b,Im b→Im' b):ResE AS l' A7 tl Im' wy:=
 ⟨h.sl.kept hk hN hI,(zZ2 hk hN hI).2.2.1 _ h.ok,h.tl.kept hk hN hI⟩
theorem RowE.res {AS:Option Addr}{cS:Nat}(h:RowE R C w (.slice AS l'.length cS) l' σ Im wx)(hl:l'.length≤1048576):ResE AS l' none [] (fun b=>Im b∨(Value.slice AS l'.length cS).ownBlock=some b) wx:=
 ⟨⟨(zG1 zN0 h.ac (by decide)).2,hl,.inr fun a ha=>by subst ha;exact .inr rfl⟩,(zZ2 (N:=fun _=>False) (Kp.refl _ _) (fun _ _ h=>h) (fun _ h=>.inl h)).2.2.1 _ h.ok,SlI.nil_ _ _ _ _ _⟩
end
end Go.Proofs.YtdgehhgjgifikaaGreatDoor
