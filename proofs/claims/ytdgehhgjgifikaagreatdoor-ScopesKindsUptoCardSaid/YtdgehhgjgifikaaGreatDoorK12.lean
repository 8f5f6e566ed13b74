/- What the claim needs of:YN. -/
import Derived.Test.YtdgehhgjgifikaaGreatDoorK11
import Derived.RegionTactic
import Derived.ChangeAlike
namespace Go.Proofs.YtdgehhgjgifikaaGreatDoor
open Go.RowKit
def yT6:Option Nat→Value
 | none=>.pointer none
 | some b=>.pointer (some ⟨b,0,none⟩)
def MFind (R:RF)(obs:List Ob)(b:Nat):Prop:=b∈R.uB∨∃ o∈obs,o.blk=b
def xY6 (R:RF)(ρ:RS)(allV:Value)(x:Int × Int × Option Nat)(file:Nat)(t:Tx)(pos:Int)(w:World)(e:Ending)(w':World):Prop:=
 e=.returned (.tuple #[.agg #[.int .i64 (file:Nat),.int .i64 pos,.string ⟨t.toArray⟩,.int .i64 x.1,.int .i64 x.2.1],yT6 x.2.2])∧Kp (MFind R ρ.objs) w w'∧RsAt R (zV3 file t x ρ) allV w.heap.size w'
theorem useC {w:World}{g:Nat}{ty:TypeId}{v0 v1 v2 v3 v4:Value}(h:Blk w g ty #[v0,v1,v2,v3,v4]):w.cell? ⟨g,0,none⟩=some v0∧w.cell? ⟨g,1,none⟩=some v1∧w.cell? ⟨g,2,none⟩=some v2∧w.cell? ⟨g,3,none⟩=some v3∧w.cell? ⟨g,4,none⟩=some v4:=⟨h.cell 0,h.cell 1,h.cell 2,h.cell 3,h.cell 4⟩
theorem useF {w:World}{g:Nat}{ty:TypeId}{cs:Array Value}(h:Blk w g ty cs):w.frozen? ⟨g,0,none⟩=false∧w.frozen? ⟨g,1,none⟩=false∧w.frozen? ⟨g,2,none⟩=false∧w.frozen? ⟨g,3,none⟩=false∧w.frozen? ⟨g,4,none⟩=false:=⟨h.free 0,h.free 1,h.free 2,h.free 3,h.free 4⟩
theorem blk_set5 {w:World}{g:Nat}{ty:TypeId}{z0 z1 z2 z3 z4:Value}(h:Blk w g ty #[z0,z1,z2,z3,z4])(v0 v1 v2 v3 v4:Value) :
  Blk (((((w.setCell ⟨g,0,none⟩ v0).setCell ⟨g,1,none⟩ v1).setCell ⟨g,2,none⟩ v2).setCell ⟨g,3,none⟩ v3).setCell ⟨g,4,none⟩ v4) g ty #[v0,v1,v2,v3,v4]:=by
 have:=((((h.set_ 0 v0).set_ 1 v1).set_ 2 v2).set_ 3 v3).set_ 4 v4;simpa using this
structure FindSt (w:World)(R:RF)(obs:List Ob)(ρ:RS)(allV:Value)(E U:Array Value)(wx:World):Prop where
 hk:Kp (MFind R obs) w wx
 hs:RsAt R ρ allV w.heap.size wx
 he:Blk wx w.heap.size 67 E
 hr:Blk wx (w.heap.size+1) 52 #[.int .i64 0,.int .i64 0,.string ⟨#[]⟩,.int .i64 0,.int .i64 0]
 hu:Blk wx (w.heap.size+1+1) 52 U
section
variable {w wx wy:World}{R:RF}{obs:List Ob}{ρ ρ':RS}{allV:Value}{E U:Array Value}
theorem FindSt.below (h:FindSt w R obs ρ allV E U wx)(hb:Below wx.heap.size wx wy):FindSt w R obs ρ allV E U wy:=
 ⟨h.hk.below hb,h.hs.keep (hb.mono h.hk.size),h.he.keep hb,h.hr.keep hb,h.hu.keep hb⟩
theorem FindSt.setU (h:FindSt w R obs ρ allV E U wx)(i:Nat)(v:Value):FindSt w R obs ρ allV E (U.setIfInBounds i v) (wx.setCell ⟨w.heap.size+1+1,i,none⟩ v):=
 ⟨h.hk.setNew (by show w.heap.size≤w.heap.size+1+1;omega) v,h.hs.keep (qH.setCell (by show w.heap.size≤w.heap.size+1+1;omega) v),h.he.far (by show w.heap.size≠w.heap.size+1+1;omega) v,h.hr.far (by show w.heap.size+1≠w.heap.size+1+1;omega) v,h.hu.set_ i v⟩
theorem FindSt.cast {U':Array Value}(h:FindSt w R obs ρ allV E U wx)(e:U=U'):FindSt w R obs ρ allV E U' wx:=e▸h
theorem FindSt.fin (h:FindSt w R obs ρ allV E U wx)(v0 v1 v2 v3 v4:Value) :
  Kp (MFind R obs) w (((((wx.setCell ⟨w.heap.size+1,0,none⟩ v0).setCell ⟨w.heap.size+1,1,none⟩ v1).setCell ⟨w.heap.size+1,2,none⟩ v2).setCell ⟨w.heap.size+1,3,none⟩ v3).setCell ⟨w.heap.size+1,4,none⟩ v4)∧
  RsAt R ρ allV w.heap.size (((((wx.setCell ⟨w.heap.size+1,0,none⟩ v0).setCell ⟨w.heap.size+1,1,none⟩ v1).setCell ⟨w.heap.size+1,2,none⟩ v2).setCell ⟨w.heap.size+1,3,none⟩ v3).setCell ⟨w.heap.size+1,4,none⟩ v4)∧
  Blk (((((wx.setCell ⟨w.heap.size+1,0,none⟩ v0).setCell ⟨w.heap.size+1,1,none⟩ v1).setCell ⟨w.heap.size+1,2,none⟩ v2).setCell ⟨w.heap.size+1,3,none⟩ v3).setCell ⟨w.heap.size+1,4,none⟩ v4) (w.heap.size+1) 52 #[v0,v1,v2,v3,v4]:=by
 have hp:∀ i,w.heap.size≤(⟨w.heap.size+1,i,none⟩:Addr).block:=fun i=>by show w.heap.size≤w.heap.size+1;omega
 exact⟨((((h.hk.setNew (hp 0) _).setNew (hp 1) _).setNew (hp 2) _).setNew (hp 3) _).setNew (hp 4) _,h.hs.keep (((((qH.setCell (hp 0) _).setCell (hp 1) _).setCell (hp 2) _).setCell (hp 3) _).setCell (hp 4) _),blk_set5 h.hr _ _ _ _ _⟩
end
theorem zQ1 {w:World}{g g':Nat}{ty ty':TypeId}{cs cs':Array Value}(h:Blk w g ty cs)(h':Blk w g' ty' cs')(hne:ty≠ty'):g≠g':=fun e=>by
 subst e;exact hne (h.inj h').1
theorem FindSt.useLet {w wx:World}{R:RF}{obs:List Ob}{ρ:RS}{allV:Value}{E U:Array Value}(h:FindSt w R obs ρ allV E U wx)(hobs:ρ.objs=obs){ob:Ob}(ho:ob∈obs):FindSt w R obs {ρ with objs:=ρ.objs.map (zL2 ob.blk)} allV E U (wx.setCell ⟨ob.blk,13,none⟩ (.bool true)):=by
 subst hobs;have hb:=h.hs.ob.at_ ob ho;have hlt:=h.hs.ob.lt ob ho;have hk:Kp (· = ob.blk) wx (wx.setCell ⟨ob.blk,13,none⟩ (.bool true)):=(Kp.refl (· = ob.blk) wx).setCell (p:=⟨ob.blk,13,none⟩) rfl _;refine⟨h.hk.trans (hk.mono fun i hi=>.inr ⟨ob,ho,hi.symm⟩),⟨?_,h.hs.rl,?_,h.hs.ob.use ho⟩,h.he.far (by show w.heap.size≠ob.blk;omega) _,h.hr.far (by show w.heap.size+1≠ob.blk;omega) _,h.hu.far (by show w.heap.size+1+1≠ob.blk;omega) _⟩
 ·exact h.hs.rc.far (zQ1 h.hs.rc hb (by decide)) _
 ·exact h.hs.mp.kept hk (fun g cs hg e=>zQ1 hg hb (by decide) e) (fun b hbm e=>by
   obtain⟨i,hi,rfl⟩:=List.mem_iff_getElem.1 hbm;exact zY4 hb (h.hs.mp.mi i hi) e.symm) (fun b hbm e=>by
   obtain⟨i,hi,rfl⟩:=List.mem_iff_getElem.1 hbm;exact zY4 hb (h.hs.mp.mu i hi) e.symm)
theorem FindSt.useMap {w wx wy:World}{R:RF}{obs:List Ob}{ρ:RS}{allV:Value}{E U:Array Value}(h:FindSt w R obs ρ allV E U wx){file:Nat}(hf:file < R.uB.length){bu:Nat}(hbu:R.uB[file]=bu){s:Tx}(hs:s∈R.imps.getD file [])(hO:OMap KS wy bu ((R.imps.getD file []).length+1) (fun y=>if y=s then some (.bool true) else fF (ρ.usedI.getD file []) y))(hg:wx.grownBy wy (some bu)):FindSt w R obs {ρ with usedI:=ρ.usedI.set file (s ::ρ.usedI.getD file [])} allV E U wy:=by
 subst hbu;have hM:=h.hs.mp.mu file hf;have hlt:=h.hs.mp.uB _ (List.getElem_mem hf);have hk:Kp (fun b=>b=R.uB[file]) wx wy:=(Kp.refl _ _).grown hg fun k hk=>.inl (by injection hk with hk;exact hk.symm);refine⟨h.hk.trans (hk.mono fun i hi=>.inl (by rw[hi];exact List.getElem_mem hf)),⟨hk.blk h.hs.rc (zY4 h.hs.rc hM),h.hs.rl,h.hs.mp.use hf hs hO hg,h.hs.ob.kept hk fun o ho=>zY4 (h.hs.ob.at_ o ho) hM⟩,hk.blk h.he qG,hk.blk h.hr qG,hk.blk h.hu qG⟩
theorem yX5 {imps:List (List Tx)}{env:List ScA}{lp:List Tx}{file:Nat}{s:Tx}(h:s∈lp):zW4 imps env lp file s=(3,0,none):=by unfold zW4;rw[if_pos h]
theorem zF6 (file:Nat)(s:Tx)(k d:Int)(hk:k≠4)(r:RS):zV3 file s (k,d,none) r=r:=by unfold zV3;simp[hk]
set_option maxRecDepth 100000 in
theorem zW0 {Q:Exit→Act→World→Prop}{W:World}{fs:List Fact}{aa ab ac ad ae af ag ah ai aj ak al am an ao ap aq ar au av aw ax ay az aA aB aC aD aE aF aG aH aI aJ aK aL aM aN aO aP aQ aR aS aT aU aV aW aX aY aZ a0 a1 a2 a3 a4 a5 a6 a7 a8 a9 ba bb bc bd be bf bg bh bi bj bk bl bm bn bo bp bq br bs bt bu bv bw bx bz bA bB bC bD bE bF bG bH bI bJ bK bL bM:Value}(h:Q .normal (Act.mk #[aa,ab,ac,ad,ae,af,ag,ah,ai,aj,ak,al,am,bM,ao,ap,aq,ar,au,av,aw,ax,ay,az,aA,aB,aC,aD,aE,aF,aG,aH,bE,bF,bG,bH,bI,bJ,bK,bL,aQ,aR,aS,aT,aU,aV,aW,aX,aY,aZ,a0,a1,a2,a3,a4,a5,a6,a7,a8,a9,ba,bb,bc,bd,be,bf,bg,bh,bi,bj,bk,bl,bm,bn,bo,bp,bq,br,bs,bt,bu,bv,bw,bx,bz,bA,bB,bC,bD] []) W):zY0 W (fun A=>Q .normal A W) [] fs (Act.put (Act.put (Act.put (Act.put (Act.put (Act.put (Act.put (Act.put (Act.put (Act.mk #[aa,ab,ac,ad,ae,af,ag,ah,ai,aj,ak,al,am,an,ao,ap,aq,ar,au,av,aw,ax,ay,az,aA,aB,aC,aD,aE,aF,aG,aH,aI,aJ,aK,aL,aM,aN,aO,aP,aQ,aR,aS,aT,aU,aV,aW,aX,aY,aZ,a0,a1,a2,a3,a4,a5,a6,a7,a8,a9,ba,bb,bc,bd,be,bf,bg,bh,bi,bj,bk,bl,bm,bn,bo,bp,bq,br,bs,bt,bu,bv,bw,bx,bz,bA,bB,bC,bD] []) (some 32) bE) (some 33) bF) (some 34) bG) (some 35) bH) (some 36) bI) (some 37) bJ) (some 38) bK) (some 39) bL) (some 13) bM):=
 zL1 qF h
set_option maxRecDepth 100000 in
theorem zW6 {Q:Exit→Act→World→Prop}{W:World}{fs:List Fact}{aa ab ac ad ae af ag ah ai aj ak al am an ao ap aq ar au av aw ax ay az aA aB aC aD aE aF aG aH aI aJ aK aL aM aN aO aP aQ aR aS aT aU aV aW aX aY aZ a0 a1 a2 a3 a4 a5 a6 a7 a8 a9 ba bb bc bd be bf bg bh bi bj bk bl bm bn bo bp bq br bs bt bu bv bw bx bz bA bB bC bD bE bF bG bH bI bJ bK bL:Value}(h:Q .normal (Act.mk #[aa,ab,ac,ad,ae,af,ag,ah,ai,aj,ak,al,am,an,ao,ap,aq,ar,au,av,aw,ax,ay,az,aA,aB,aC,aD,aE,aF,aG,aH,aI,aJ,aK,aL,aM,aN,aO,aP,aQ,aR,aS,aT,aU,aV,aW,aX,aY,aZ,a0,a1,a2,bE,bF,bG,bH,bI,bJ,bK,bL,bb,bc,bd,be,bf,bg,bh,bi,bj,bk,bl,bm,bn,bo,bp,bq,br,bs,bt,bu,bv,bw,bx,bz,bA,bB,bC,bD] []) W):zY0 W (fun A=>Q .normal A W) [] fs (Act.put (Act.put (Act.put (Act.put (Act.put (Act.put (Act.put (Act.put (Act.mk #[aa,ab,ac,ad,ae,af,ag,ah,ai,aj,ak,al,am,an,ao,ap,aq,ar,au,av,aw,ax,ay,az,aA,aB,aC,aD,aE,aF,aG,aH,aI,aJ,aK,aL,aM,aN,aO,aP,aQ,aR,aS,aT,aU,aV,aW,aX,aY,aZ,a0,a1,a2,a3,a4,a5,a6,a7,a8,a9,ba,bb,bc,bd,be,bf,bg,bh,bi,bj,bk,bl,bm,bn,bo,bp,bq,br,bs,bt,bu,bv,bw,bx,bz,bA,bB,bC,bD] []) (some 53) bE) (some 54) bF) (some 55) bG) (some 56) bH) (some 57) bI) (some 58) bJ) (some 59) bK) (some 60) bL):=
 zL1 qF h
set_option maxRecDepth 100000 in
theorem zX5 {Q:Exit→Act→World→Prop}{W:World}{fs:List Fact}{aa ab ac ad ae af ag ah ai aj ak al am an ao ap aq ar au av aw ax ay az aA aB aC aD aE aF aG aH aI aJ aK aL aM aN aO aP aQ aR aS aT aU aV aW aX aY aZ a0 a1 a2 a3 a4 a5 a6 a7 a8 a9 ba bb bc bd be bf bg bh bi bj bk bl bm bn bo bp bq br bs bt bu bv bw bx bz bA bB bC bD bE bF bG bH bI bJ bK bL bM bN:Value}(h:Q .normal (Act.mk #[aa,ab,ac,ad,ae,af,ag,ah,ai,aj,ak,al,am,an,ao,ap,aq,ar,au,av,aw,ax,ay,az,aA,aB,aC,aD,aE,aF,aG,aH,aI,aJ,aK,aL,aM,aN,aO,aP,aQ,aR,aS,aT,aU,aV,aW,aX,aY,aZ,a0,a1,a2,a3,a4,a5,a6,a7,a8,a9,ba,bb,bc,bd,be,bf,bg,bh,bE,bF,bG,bH,bI,bJ,bK,bL,bM,bN,bs,bt,bu,bv,bw,bx,bz,bA,bB,bC,bD] []) W):zY0 W (fun A=>Q .normal A W) [] fs (Act.put (Act.put (Act.put (Act.put (Act.put (Act.put (Act.put (Act.put (Act.put (Act.put (Act.mk #[aa,ab,ac,ad,ae,af,ag,ah,ai,aj,ak,al,am,an,ao,ap,aq,ar,au,av,aw,ax,ay,az,aA,aB,aC,aD,aE,aF,aG,aH,aI,aJ,aK,aL,aM,aN,aO,aP,aQ,aR,aS,aT,aU,aV,aW,aX,aY,aZ,a0,a1,a2,a3,a4,a5,a6,a7,a8,a9,ba,bb,bc,bd,be,bf,bg,bh,bi,bj,bk,bl,bm,bn,bo,bp,bq,br,bs,bt,bu,bv,bw,bx,bz,bA,bB,bC,bD] []) (some 68) bE) (some 69) bF) (some 70) bG) (some 71) bH) (some 72) bI) (some 73) bJ) (some 74) bK) (some 75) bL) (some 76) bM) (some 77) bN):=
 zL1 qF h
set_option maxRecDepth 100000 in
theorem zU9 {o:Oper}{P:Program}{Q:Exit→Act→World→Prop}{K:Act→World→Prop}{W:World}{fs:List Fact}{G:Act→Prop}{aa ab ac ad ae af ag ah ai aj ak al am an ao ap aq ar au av aw ax ay az aA aB aC aD aE aF aG aH aI aJ aK aL aM aN aO aP aQ aR aS aT aU aV aW aX aY aZ a0 a1 a2 a3 a4 a5 a6 a7 a8 a9 ba bb bc bd be bf bg bh bi bj bk bl bm bn bo bp bq br bs bt bu bv bw bx bz bA bB bC bD bE bF bG bH bI bJ bK bL bM:Value}(hG:∀ A,o.wp P A W K Q→G A)(h:o.wp P (Act.mk #[aa,ab,ac,ad,ae,af,ag,ah,ai,aj,ak,al,am,an,ao,ap,aq,ar,au,av,aw,ax,ay,az,aA,aB,aC,aD,aE,aF,aG,aH,aI,aJ,aK,aL,aM,aN,aO,aP,aQ,aR,aS,aT,aU,aV,aW,aX,aY,aZ,a0,a1,a2,a3,a4,a5,a6,a7,a8,a9,ba,bb,bc,bd,be,bf,bg,bh,bi,bj,bk,bl,bm,bn,bo,bp,bq,br,bE,bF,bG,bH,bI,bJ,bK,bL,bM,bC,bD] []) W K Q):zY0 W G [] fs (Act.put (Act.put (Act.put (Act.put (Act.put (Act.put (Act.put (Act.put (Act.put (Act.mk #[aa,ab,ac,ad,ae,af,ag,ah,ai,aj,ak,al,am,an,ao,ap,aq,ar,au,av,aw,ax,ay,az,aA,aB,aC,aD,aE,aF,aG,aH,aI,aJ,aK,aL,aM,aN,aO,aP,aQ,aR,aS,aT,aU,aV,aW,aX,aY,aZ,a0,a1,a2,a3,a4,a5,a6,a7,a8,a9,ba,bb,bc,bd,be,bf,bg,bh,bi,bj,bk,bl,bm,bn,bo,bp,bq,br,bs,bt,bu,bv,bw,bx,bz,bA,bB,bC,bD] []) (some 78) bE) (some 79) bF) (some 80) bG) (some 81) bH) (some 82) bI) (some 83) bJ) (some 84) bK) (some 85) bL) (some 86) bM):=
 zV2 qF hG h
set_option maxRecDepth 100000 in
set_option maxHeartbeats 16000000 in
theorem find_any (R:RF)(ρ:RS)(allV:Value)(env:List ScA)(v:Value)(lp:List Tx)(A:Option Addr)(c file:Nat)(k:Int)(t:Tx)(n:Int)(a b:Tx)(As:Option Addr)(m cs:Nat)(Ad:Option Addr)(m2 cd:Nat)(At:Option Addr)(m3 ct:Nat)(pos:Int)(w:World)
  (hR:RsAt R ρ allV w.heap.size w)(hE:EnvAt w w.heap.size v env)(hob:∀ x∈env,∀ p∈x.lets,∃ o∈ρ.objs,o.blk=p.2)(hlp:SlN w w.heap.size 1 encS A lp)(hf:file < R.uB.length)(ht:t.length≤maxLen)(hel:env.length≤1099511627776) :
  Calls Tryz.prog 132 #[.pointer (some ⟨R.r,0,none⟩),.agg #[.int .i64 k,.string ⟨t.toArray⟩,.int .i64 n,.string ⟨a.toArray⟩,.string ⟨b.toArray⟩,.slice As m cs,.slice Ad m2 cd,.slice At m3 ct,.int .i64 pos],v,.slice A lp.length c,.int .i64 (file:Nat)] w (xY6 R ρ allV (zW4 R.imps env lp file t) file t pos w):=by
 have HR:=qK hR;have HE:=qK hE;have HOb:=qK hob;have HLp:=qK hlp;have HT:=qK ht;have HF:=qK hf;have S0:FindSt w R ρ.objs ρ allV #[.int .i64 k,.string ⟨t.toArray⟩,.int .i64 n,.string ⟨a.toArray⟩,.string ⟨b.toArray⟩,.slice As m cs,.slice Ad m2 cd,.slice At m3 ct,.int .i64 pos] #[.int .i64 (file:Nat),.int .i64 pos,.string ⟨t.toArray⟩,.int .i64 0,.int .i64 0] (((w.alloc (.cells #[.int .i64 k,.string ⟨t.toArray⟩,.int .i64 n,.string ⟨a.toArray⟩,.string ⟨b.toArray⟩,.slice As m cs,.slice Ad m2 cd,.slice At m3 ct,.int .i64 pos] 67)).alloc (.cells #[.int .i64 0,.int .i64 0,.string ⟨#[]⟩,.int .i64 0,.int .i64 0] 52)).alloc (.cells #[.int .i64 (file:Nat),.int .i64 pos,.string ⟨t.toArray⟩,.int .i64 0,.int .i64 0] 52)):=by
  have hb3:=(((Below.refl w.heap.size w).alloc qJ (.cells #[.int .i64 k,.string ⟨t.toArray⟩,.int .i64 n,.string ⟨a.toArray⟩,.string ⟨b.toArray⟩,.slice As m cs,.slice Ad m2 cd,.slice At m3 ct,.int .i64 pos] 67)).alloc (by simp) (.cells #[.int .i64 0,.int .i64 0,.string ⟨#[]⟩,.int .i64 0,.int .i64 0] 52)).alloc (by simp;omega) (.cells #[.int .i64 (file:Nat),.int .i64 pos,.string ⟨t.toArray⟩,.int .i64 0,.int .i64 0] 52);refine⟨Kp.ofBelow hb3 _,hR.keep hb3,((Blk.new w _ _).alloc _).alloc _,?_,?_⟩
  ·have:=(Blk.new (w.alloc (.cells #[.int .i64 k,.string ⟨t.toArray⟩,.int .i64 n,.string ⟨a.toArray⟩,.string ⟨b.toArray⟩,.slice As m cs,.slice Ad m2 cd,.slice At m3 ct,.int .i64 pos] 67)) 52 #[.int .i64 0,.int .i64 0,.string ⟨#[]⟩,.int .i64 0,.int .i64 0]).alloc (.cells #[.int .i64 (file:Nat),.int .i64 pos,.string ⟨t.toArray⟩,.int .i64 0,.int .i64 0] 52);rw[World.size_alloc] at this;exact this
  ·have:=Blk.new ((w.alloc (.cells #[.int .i64 k,.string ⟨t.toArray⟩,.int .i64 n,.string ⟨a.toArray⟩,.string ⟨b.toArray⟩,.slice As m cs,.slice Ad m2 cd,.slice At m3 ct,.int .i64 pos] 67)).alloc (.cells #[.int .i64 0,.int .i64 0,.string ⟨#[]⟩,.int .i64 0,.int .i64 0] 52)) 52 #[.int .i64 (file:Nat),.int .i64 pos,.string ⟨t.toArray⟩,.int .i64 0,.int .i64 0];rw[World.size_alloc,World.size_alloc] at this;exact this
 clear hR hE hob hlp ht hf;go_enter Tryz.func132,Tryz.ntmps132
 go_upto_region 2 with fail
 have HB2:=qK ((((Below.refl w.heap.size w).alloc qJ (.cells #[.int .i64 k,.string ⟨t.toArray⟩,.int .i64 n,.string ⟨a.toArray⟩,.string ⟨b.toArray⟩,.slice As m cs,.slice Ad m2 cd,.slice At m3 ct,.int .i64 pos] 67)).alloc (by simp) (.cells #[.int .i64 0,.int .i64 0,.string ⟨#[]⟩,.int .i64 0,.int .i64 0] 52)).alloc (by simp;omega) (.cells #[.int .i64 (file:Nat),.int .i64 pos,.string ⟨t.toArray⟩,.int .i64 0,.int .i64 0] 52));generalize ((w.alloc (.cells #[.int .i64 k,.string ⟨t.toArray⟩,.int .i64 n,.string ⟨a.toArray⟩,.string ⟨b.toArray⟩,.slice As m cs,.slice Ad m2 cd,.slice At m3 ct,.int .i64 pos] 67)).alloc (.cells #[.int .i64 0,.int .i64 0,.string ⟨#[]⟩,.int .i64 0,.int .i64 0] 52)).alloc (.cells #[.int .i64 (file:Nat),.int .i64 pos,.string ⟨t.toArray⟩,.int .i64 0,.int .i64 0] 52)=w2 at S0 HB2 ⊢;obtain⟨e0,e1,e2,e3,e4,e5,e6,e7,e8⟩:=zZ6 S0.he;have cC:=zC4 A c lp t w2 ((HLp.out.1.below HB2.out).more HB2.out.size) HLp.out.2;obtain⟨u0,u1,u2,u3,u4⟩:=useC S0.hu;obtain⟨r0,r1,r2,r3,r4⟩:=useC S0.hr;obtain⟨uf0,uf1,uf2,uf3,uf4⟩:=useF S0.hu;obtain⟨rf0,rf1,rf2,rf3,rf4⟩:=useF S0.hr;cases hin:decide (t∈lp)
 rotate_left
 ·rw[hin] at cC;have HIn:=qK (of_decide_eq_true hin);clear hin;go_wp2_with fail
  refine cC.mono ?_;rintro e w3 ⟨rfl,rfl⟩;clear cC;go_wp2;have S1:=(S0.setU 3 (.int .i64 3)).cast (U':=#[.int .i64 (file:Nat),.int .i64 pos,.string ⟨t.toArray⟩,.int .i64 3,.int .i64 0]) (by simp);have hfin:=S1.fin (.int .i64 (file:Nat)) (.int .i64 pos) (.string ⟨t.toArray⟩) (.int .i64 3) (.int .i64 0);generalize (((((w2.setCell ⟨w.heap.size+1+1,3,none⟩ (.int .i64 3)).setCell ⟨w.heap.size+1,0,none⟩ (.int .i64 (file:Nat))).setCell ⟨w.heap.size+1,1,none⟩ (.int .i64 pos)).setCell ⟨w.heap.size+1,2,none⟩ (.string ⟨t.toArray⟩)).setCell ⟨w.heap.size+1,3,none⟩ (.int .i64 3)).setCell ⟨w.heap.size+1,4,none⟩ (.int .i64 0)=wE at hfin ⊢;obtain⟨z0,z1,z2,z3,z4⟩:=useC hfin.2.2;exact bodyPost_ret (v:=.tuple #[.agg #[.int .i64 (file:Nat),.int .i64 pos,.string ⟨t.toArray⟩,.int .i64 3,.int .i64 0],.pointer none]) (by simp[results,Tryz.results132,go_sem,z0,z1,z2,z3,z4]) rfl ⟨by rw[yX5 HIn.out];rfl,hfin.1,by rw[yX5 HIn.out,zF6 _ _ _ _ (by decide)];exact hfin.2.1⟩
 ·rw[hin] at cC;have HIn:=qK (of_decide_eq_false hin);clear hin;go_wp2_with fail
  refine cC.mono ?_;rintro e w3 ⟨rfl,rfl⟩;clear cC;clear e0 e1 e2 e3 e4 e5 e6 e7 e8 u0 u1 u2 u3 u4 r0 r1 r2 r3 r4 uf0 uf1 uf2 uf3 uf4 rf0 rf1 rf2 rf3 rf4;have HEnv:=qK (HE.out.keep HB2.out);go_wp2
  go_loopg [2] env.length (fun g vs wr=>∃ suf:List ScA,EnvAt wr w.heap.size vs suf∧Hid (∀ x∈suf,x∈env)∧Hid (zQ0 t env=zQ0 t suf)∧Hid (suf.length=g∧g≤env.length)∧FindSt w R ρ.objs ρ allV #[.int .i64 k,.string ⟨t.toArray⟩,.int .i64 n,.string ⟨a.toArray⟩,.string ⟨b.toArray⟩,.slice As m cs,.slice Ad m2 cd,.slice At m3 ct,.int .i64 pos] #[.int .i64 (file:Nat),.int .i64 pos,.string ⟨t.toArray⟩,.int .i64 0,.int .i64 0] wr)
  case atStart=>exact⟨env,HEnv.out,qK (fun _ h=>h),qK rfl,qK ⟨rfl,Nat.le_refl _⟩,S0⟩
  case round=>
   obtain⟨suf,hEs,HSu,HFc,HLn,Sk⟩:=hrel;obtain⟨wo,hwo⟩:∃ wo,wo=wr:=⟨_,rfl⟩;subst hwo;cases suf with
   | nil=>
     have hv:_=Value.pointer none:=hEs;subst hv;have HX:=qK (show zQ0 t env=(0,0,none) from HFc.out);have hfi:file < R.iB.length:=by
      have h1:=Sk.hs.mp.lb;have h2:=HF.out;omega
     obtain⟨gi,ai,hAi,hgi,hBi,hai⟩:∃ g cs,R.Ai=some ⟨g,0,none⟩∧g < w.heap.size∧Blk wo g 103 cs∧cs[file]? = some (.map (some R.iB[file])):=by
      rcases Sk.hs.mp.im with h | ⟨g,cs,h1,h2,h3,h4⟩
      ·rw[h] at hfi;simp at hfi
      ·exact⟨g,cs,h1,h2,h3,h4 file hfi⟩
     have HM:=qK (Sk.hs.mp.mi file hfi);generalize R.iB[file]=bi at hai HM;have i0:wo.cell? ⟨gi,file,none⟩=some (.map (some bi)):=by rw[hBi.cell file,hai]
     have r3:=Sk.hs.rc.cell 3;have hzr:R.r < wo.heap.size:=Sk.hs.rc.lt;have hzi:gi < wo.heap.size:=hBi.lt;rw[hAi] at r3;obtain⟨e0,e1,e2,e3,e4,e5,e6,e7,e8⟩:=zZ6 Sk.he;have hze:w.heap.size < wo.heap.size:=Sk.he.lt;have hbd:((file:Nat):Int) < ((R.iB.length:Nat):Int):=by omega
     clear hBi hai HFc;cases him:decide (t∈R.imps.getD file [])
     ·have HLK:=qK (show ∀ W,Below wo.heap.size wo W→(Instr.lookup 103 (.map (some bi)) (.string ⟨t.toArray⟩) false).run Tryz.prog W=.ok (.bool false) W from fun W hB=>by
       have h:=(HM.out.below hB).look Tryz.underlying103 (Tryz.zeroValue4 W) t HT.out;unfold fF at h;rw[if_neg (of_decide_eq_false him)] at h;exact h)
      have HFA:=qK (show zW4 R.imps env lp file t=(0,0,none) from by unfold zW4;rw[if_neg HIn.out,HX.out,if_pos rfl,if_neg (of_decide_eq_false him)]);clear him HM;go_upto_region 15 with fail
      apply zZ3 qF [isv _,isv _,isv _,isv _,isv _,isv _,isv _,isv _,isv _,isv _] wo.heap.size wo qJ qH.drew qF qF qF (qC (qC (qC (qC (qC (qC (qC (qC (qC (qC trivial)))))))))) ?steps (by rfl) ?fin;case steps=>exact qA (qS 0) (qA (qQ 0 68) (qA (qQ 1 69) (qA (yP 2 70) (qA (qS 4) (qA (qV 3 71 4 72) (qA (yM 5 73) (qA (qS 6) (qA (kP 7 75) (qA (kR 6 74 8 76) trivial)))))))))
      case fin=>
       intro w7 hB
       iterate 10 refine qN ?_
       refine zX5 ?_;have S7:=Sk.below hB;clear hB;obtain⟨u0,u1,u2,u3,u4⟩:=useC S7.hu;obtain⟨r0,r1,r2,r3,r4⟩:=useC S7.hr;obtain⟨rf0,rf1,rf2,rf3,rf4⟩:=useF S7.hr;go_wp2;have hfin:=S7.fin (.int .i64 (file:Nat)) (.int .i64 pos) (.string ⟨t.toArray⟩) (.int .i64 0) (.int .i64 0);generalize (((((w7.setCell ⟨w.heap.size+1,0,none⟩ (.int .i64 (file:Nat))).setCell ⟨w.heap.size+1,1,none⟩ (.int .i64 pos)).setCell ⟨w.heap.size+1,2,none⟩ (.string ⟨t.toArray⟩)).setCell ⟨w.heap.size+1,3,none⟩ (.int .i64 0)).setCell ⟨w.heap.size+1,4,none⟩ (.int .i64 0))=wE at hfin ⊢;obtain⟨z0,z1,z2,z3,z4⟩:=useC hfin.2.2;exact bodyPost_ret (v:=.tuple #[.agg #[.int .i64 (file:Nat),.int .i64 pos,.string ⟨t.toArray⟩,.int .i64 0,.int .i64 0],.pointer none]) (by simp[results,Tryz.results132,go_sem,z0,z1,z2,z3,z4]) rfl ⟨by rw[HFA.out];rfl,hfin.1,by rw[HFA.out,zF6 _ _ _ _ (by decide)];exact hfin.2.1⟩
     ·have HIm:=qK (of_decide_eq_true him);have HLK:=qK (show ∀ W,Below wo.heap.size wo W→(Instr.lookup 103 (.map (some bi)) (.string ⟨t.toArray⟩) false).run Tryz.prog W=.ok (.bool true) W from fun W hB=>by
       have h:=(HM.out.below hB).look Tryz.underlying103 (Tryz.zeroValue4 W) t HT.out;unfold fF at h;rw[if_pos HIm.out] at h;exact h)
      have HFA:=qK (show zW4 R.imps env lp file t=(4,0,none) from by unfold zW4;rw[if_neg HIn.out,HX.out,if_pos rfl,if_pos HIm.out]);clear him HM;go_upto_region 15 with fail
      apply zZ3 qF [isv _,isv _,isv _,isv _,isv _,isv _,isv _,isv _,isv _,isv _] wo.heap.size wo qJ qH.drew qF qF qF (qC (qC (qC (qC (qC (qC (qC (qC (qC (qC trivial)))))))))) ?steps (by rfl) ?fin;case steps=>exact qA (qS 0) (qA (qQ 0 68) (qA (qQ 1 69) (qA (yP 2 70) (qA (qS 4) (qA (qV 3 71 4 72) (qA (yM 5 73) (qA (qS 6) (qA (kP 7 75) (qA (kR 6 74 8 76) trivial)))))))))
      case fin=>
       intro w7 hB
       iterate 10 refine qN ?_
       refine zX5 ?_;have S7:=Sk.below hB;clear hB HLK e0 e1 e2 e3 e4 e5 e6 e7 e8 i0 r3 hzr hzi hze hAi hgi hfi hbd;have hfu:file < R.uB.length:=HF.out;obtain⟨gu,au,hAu,hgu,hBu,hau⟩:∃ g cs,R.Au=some ⟨g,0,none⟩∧g < w.heap.size∧Blk w7 g 103 cs∧cs[file]? = some (.map (some R.uB[file])):=by
        rcases S7.hs.mp.us with h | ⟨g,cs,h1,h2,h3,h4⟩
        ·rw[h] at hfu;simp at hfu
        ·exact⟨g,cs,h1,h2,h3,h4 file hfu⟩
       have HM:=qK (S7.hs.mp.mu file hfu);obtain⟨bu,hbu⟩:∃ bu,R.uB[file]=bu:=⟨_,rfl⟩;rw[hbu] at hau HM;have HBu:=qK hbu;clear hbu;have i0:w7.cell? ⟨gu,file,none⟩=some (.map (some bu)):=by rw[hBu.cell file,hau]
       have r4:=S7.hs.rc.cell 4;have hzr:R.r < w7.heap.size:=S7.hs.rc.lt;have hzi:gu < w7.heap.size:=hBu.lt;rw[hAu] at r4;obtain⟨e0,e1,e2,e3,e4,e5,e6,e7,e8⟩:=zZ6 S7.he;have hze:w.heap.size < w7.heap.size:=S7.he.lt;have hbd:((file:Nat):Int) < ((R.uB.length:Nat):Int):=by omega
       clear hBu hau;go_upto_region 16 with fail
       apply zZ5 qF [isv _,isv _,isv _,isv _,isv _,isv _,isv _,isv _,isv _] w7.heap.size w7 qJ qH.drew qF qF qF qF qF (qC (qC (qC (qC (qC (qC (qC (qC (qC trivial))))))))) ?steps (by rfl) _ rfl rfl ?fin;case steps=>
        refine qA (qS 0) (qA (qQ 0 78) (qA (qQ 1 79) (qA ?_ ?_)))
        ·intro AA W KK QQ hB hs hd hl hk;obtain⟨_,sl80,rfl⟩:=hd 2 80 qF rfl;clear hs hd hl;have hx4:=hB.cell (p:=⟨R.r,4,none⟩) hzr;rw[r4] at hx4;go_simp;exact hk _ _ rfl qH
        refine qA (qS 4) (qA (qV 3 81 4 82) (qA ?_ ?_))
        ·intro AA W KK QQ hB hs hd hl hk;obtain⟨_,sl83,rfl⟩:=hd 5 83 qF rfl;clear hs hd hl;have hxi:=hB.cell (p:=⟨gu,file,none⟩) hzi;rw[i0] at hxi;go_simp;exact hk _ _ rfl qH
        exact qA (qS 6) (qA (kP 7 85) trivial)
       case fin=>
        intro w8 hB GG hGG
        iterate 9 refine qN ?_
        refine zU9 hGG ?_;have S8:=S7.below hB;have HM8:=qK (HM.out.below hB);have hln:(R.imps.getD file []).length≤1099511627776:=by
         by_cases hl:file < R.imps.length
         ·rw[List.getD_eq_getElem?_getD,List.getElem?_eq_getElem hl];exact S8.hs.mp.sl _ (List.getElem_mem hl)
         ·rw[List.getD_eq_getElem?_getD,List.getElem?_eq_none qG];simp
        obtain⟨w9,hrun,hO9,hg9⟩:=HM8.out.put Tryz.underlying103 (by have:maxLen=9223372036854775807:=rfl;omega) t HT.out (.bool true);have hrun':(Instr.mapUpdate 103 (.map (some bu)) (.string ⟨t.toArray⟩) (.bool true)).run Tryz.prog w8=.ok () w9:=hrun;have S9:=S8.useMap HF.out HBu.out HIm.out hO9 hg9;clear hrun hO9 hg9 hB e0 e1 e2 e3 e4 e5 e6 e7 e8 i0 r4 hzr hzi hze hAu hgu hbd;obtain⟨u0,u1,u2,u3,u4⟩:=useC S9.hu;obtain⟨uf0,uf1,uf2,uf3,uf4⟩:=useF S9.hu;go_simp;go_upto_region 18 with fail
        have S10:=(S9.setU 3 (.int .i64 4)).cast (U':=#[.int .i64 (file:Nat),.int .i64 pos,.string ⟨t.toArray⟩,.int .i64 4,.int .i64 0]) (by simp);generalize w9.setCell ⟨w.heap.size+1+1,3,none⟩ (.int .i64 4)=w10 at S10 ⊢;clear u0 u1 u2 u3 u4 uf0 uf1 uf2 uf3 uf4;obtain⟨u0,u1,u2,u3,u4⟩:=useC S10.hu;obtain⟨r0,r1,r2,r3,r4⟩:=useC S10.hr;obtain⟨rf0,rf1,rf2,rf3,rf4⟩:=useF S10.hr;go_wp2;have hfin:=S10.fin (.int .i64 (file:Nat)) (.int .i64 pos) (.string ⟨t.toArray⟩) (.int .i64 4) (.int .i64 0);generalize (((((w10.setCell ⟨w.heap.size+1,0,none⟩ (.int .i64 (file:Nat))).setCell ⟨w.heap.size+1,1,none⟩ (.int .i64 pos)).setCell ⟨w.heap.size+1,2,none⟩ (.string ⟨t.toArray⟩)).setCell ⟨w.heap.size+1,3,none⟩ (.int .i64 4)).setCell ⟨w.heap.size+1,4,none⟩ (.int .i64 0))=wE at hfin ⊢;obtain⟨z0,z1,z2,z3,z4⟩:=useC hfin.2.2;exact bodyPost_ret (v:=.tuple #[.agg #[.int .i64 (file:Nat),.int .i64 pos,.string ⟨t.toArray⟩,.int .i64 4,.int .i64 0],.pointer none]) (by simp[results,Tryz.results132,go_sem,z0,z1,z2,z3,z4]) rfl ⟨by rw[HFA.out];rfl,hfin.1,by rw[HFA.out];exact hfin.2.1⟩
   | cons x r=>
     obtain⟨hv,hx1,hx2,hx3,hx4,hxF,hxL,o,hxB,hEr⟩:=hEs;subst hv;have hrl:(r.length:Int)≤1099511627776:=by
      have:=HLn.out;simp at this;omega
     obtain⟨s0,s1,s2,s3⟩:=zM5 hxB;obtain⟨e0,e1,e2,e3,e4,e5,e6,e7,e8⟩:=zZ6 Sk.he;have hzs:x.blk < wo.heap.size:=hxB.lt;have hze:w.heap.size < wo.heap.size:=Sk.he.lt;cases hll:zU2 x.lets t with
     | some bb=>
       have HLK:=qK (show ∀ W,Below wo.heap.size wo W→(Instr.lookup 118 (.map (some x.bL)) (.string ⟨t.toArray⟩) false).run Tryz.prog W=.ok (.pointer (some ⟨bb,0,none⟩)) W from fun W hB=>by
        have h:=(hxL.below hB).look Tryz.underlying118 (Tryz.zeroValue80 W) t HT.out;unfold fL at h;rw[hll] at h;exact h)
       obtain⟨ob,hobm,hobb⟩:=HOb.out x (HSu.out x (by simp)) (t,bb) (zS9 hll);simp only at hobb;have HX:=qK (show zQ0 t env=(2,(r.length:Int),some bb) from by rw[HFc.out,zQ0,hll]);have HOm:=qK hobm;have HOb2:=qK hobb;clear hll hobm hobb;have HxB:=qK hxB;clear hxF hxL hxB hEr;go_upto_region 7 with fail
       apply zZ3 qF [isv _,isv _,isv _,isv _,isv _,isv _,isv _,isv _,isv _] wo.heap.size wo qJ qH.drew qF qF qF (qC (qC (qC (qC (qC (qC (qC (qC (qC trivial))))))))) ?steps (by rfl) ?fin;case steps=>exact qA (qS 2) (qA (qQ 0 32) (qA (qQ 1 33) (qA (qQ 2 34) (qA (yN 3 35) (qA (qS 6) (qA (kP 5 37) (qA (kR 4 36 6 38) (qA (qQ 7 39) trivial))))))))
       case fin=>
        intro w7 hB
        iterate 9 refine qN ?_
        refine zW0 ?_;have S7:=Sk.below hB;have X7:=qK (HxB.out.keep hB);have hbo:=S7.hs.ob.at_ ob HOm.out;rw[HOb2.out] at hbo;have hl13:w7.cell? ⟨bb,13,none⟩=some (.bool ob.used):=by
         have h:=hbo.cell 13;rw[h];obtain⟨b1,d1,s1',f1',u1',a1',h1',x1',dn⟩:=ob;cases d1 with
         | mk=>rfl
        have hf13:w7.frozen? ⟨bb,13,none⟩=false:=hbo.free 13;clear hB hbo;go_upto_region 10 with fail
        have S8:=S7.useLet rfl HOm.out;rw[HOb2.out] at S8;have hbb:x.blk≠bb:=by
         have h:=S7.hs.ob.at_ ob HOm.out;rw[HOb2.out] at h;exact zQ1 X7.out h (by decide)
        have X8:=qK (X7.out.far (p:=⟨bb,13,none⟩) hbb (.bool true));clear hbb hl13 hf13;generalize w7.setCell ⟨bb,13,none⟩ (.bool true)=w8 at S8 X8 ⊢;obtain⟨s0,s1,s2,s3⟩:=zM5 X8.out;obtain⟨u0,u1,u2,u3,u4⟩:=useC S8.hu;obtain⟨uf0,uf1,uf2,uf3,uf4⟩:=useF S8.hu;go_region
        have S9:=(((S8.setU 3 (.int .i64 2)).setU 4 (.int .i64 (r.length:Nat))).below qH.drew).cast (U':=#[.int .i64 (file:Nat),.int .i64 pos,.string ⟨t.toArray⟩,.int .i64 2,.int .i64 (r.length:Nat)]) (by simp);generalize ((w8.setCell ⟨w.heap.size+1+1,3,none⟩ (.int .i64 2)).setCell ⟨w.heap.size+1+1,4,none⟩ (.int .i64 (r.length:Nat))).drew=w9 at S9 ⊢;clear u0 u1 u2 u3 u4 uf0 uf1 uf2 uf3 uf4 s0 s1 s2 s3;obtain⟨u0,u1,u2,u3,u4⟩:=useC S9.hu;obtain⟨r0,r1,r2,r3,r4⟩:=useC S9.hr;obtain⟨rf0,rf1,rf2,rf3,rf4⟩:=useF S9.hr;have HFA:=qK (show zW4 R.imps env lp file t=(2,(r.length:Int),some bb) from by unfold zW4;rw[if_neg HIn.out,HX.out,if_neg (by simp)]);go_wp2;have hfin:=S9.fin (.int .i64 (file:Nat)) (.int .i64 pos) (.string ⟨t.toArray⟩) (.int .i64 2) (.int .i64 (r.length:Nat));generalize ((((w9.setCell ⟨w.heap.size+1,0,none⟩ (.int .i64 (file:Nat))).setCell ⟨w.heap.size+1,1,none⟩ (.int .i64 pos)).setCell ⟨w.heap.size+1,2,none⟩ (.string ⟨t.toArray⟩)).setCell ⟨w.heap.size+1,3,none⟩ (.int .i64 2)).setCell ⟨w.heap.size+1,4,none⟩ (.int .i64 (r.length:Nat))=wE at hfin ⊢;obtain⟨z0,z1,z2,z3,z4⟩:=useC hfin.2.2;exact bodyPost_ret (v:=.tuple #[.agg #[.int .i64 (file:Nat),.int .i64 pos,.string ⟨t.toArray⟩,.int .i64 2,.int .i64 (r.length:Nat)],.pointer (some ⟨bb,0,none⟩)]) (by simp[results,Tryz.results132,go_sem,z0,z1,z2,z3,z4]) rfl ⟨by rw[HFA.out];rfl,hfin.1,by rw[HFA.out];exact hfin.2.1⟩
     | none=>
       have HLK:=qK (show ∀ W,Below wo.heap.size wo W→(Instr.lookup 118 (.map (some x.bL)) (.string ⟨t.toArray⟩) false).run Tryz.prog W=.ok (.pointer none) W from fun W hB=>by
        have h:=(hxL.below hB).look Tryz.underlying118 (Tryz.zeroValue80 W) t HT.out;unfold fL at h;rw[hll] at h;exact h)
       have HX:=qK (show zQ0 t env=if t∈x.fields then(1,(r.length:Int),none) else zQ0 t r from by rw[HFc.out,zQ0,hll]);have HxB:=qK hxB;have HxF:=qK hxF;have HEr:=qK hEr;clear hll hxF hxL hxB hEr;go_upto_region 7 with fail
       apply zZ3 qF [isv _,isv _,isv _,isv _,isv _,isv _,isv _,isv _,isv _] wo.heap.size wo qJ qH.drew qF qF qF (qC (qC (qC (qC (qC (qC (qC (qC (qC trivial))))))))) ?steps (by rfl) ?fin;case steps=>exact qA (qS 2) (qA (qQ 0 32) (qA (qQ 1 33) (qA (qQ 2 34) (qA (yN 3 35) (qA (qS 6) (qA (kP 5 37) (qA (kR 4 36 6 38) (qA (qQ 7 39) trivial))))))))
       case fin=>
        intro w7 hB
        iterate 9 refine qN ?_
        refine zW0 ?_;have S7:=Sk.below hB;have X7:=qK (HxB.out.keep hB);have F7:=qK (HxF.out.below hB);have E7:=qK (HEr.out.keep (hB.mono Sk.hk.size));clear hB HLK s0 s1 s2 s3 e0 e1 e2 e3 e4 e5 e6 e7 e8 hzs hze;obtain⟨s0,s1,s2,s3⟩:=zM5 X7.out;obtain⟨e0,e1,e2,e3,e4,e5,e6,e7,e8⟩:=zZ6 S7.he;have hzs:x.blk < w7.heap.size:=X7.out.lt;have hze:w.heap.size < w7.heap.size:=S7.he.lt;by_cases hfi:t∈x.fields
        ·have HLK:=qK (show ∀ W,Below w7.heap.size w7 W→(Instr.lookup 103 (.map (some x.bF)) (.string ⟨t.toArray⟩) false).run Tryz.prog W=.ok (.bool true) W from fun W hB=>by
          have h:=(F7.out.below hB).look Tryz.underlying103 (Tryz.zeroValue4 W) t HT.out;unfold fF at h;rw[if_pos hfi] at h;exact h)
         have HFA:=qK (show zW4 R.imps env lp file t=(1,(r.length:Int),none) from by unfold zW4;rw[if_neg HIn.out,HX.out,if_pos hfi,if_neg (by simp)]);clear hfi;go_upto_region 12 with fail
         apply zZ3 qF [isv _,isv _,isv _,isv _,isv _,isv _,isv _,isv _] w7.heap.size w7 qJ qH.drew qF qF qF (qC (qC (qC (qC (qC (qC (qC (qC trivial)))))))) ?steps (by rfl) ?fin;case steps=>exact qA (qS 2) (qA (qQ 0 53) (qA (qQ 1 54) (qA (qQ 2 55) (qA (yO 3 56) (qA (qS 6) (qA (kP 5 58) (qA (kR 4 57 6 59) trivial)))))))
         case fin=>
          intro w8 hB
          iterate 8 refine qN ?_
          refine zW6 ?_;have S8:=S7.below hB;have X8:=qK (X7.out.keep hB);clear hB s0 s1 s2 s3 e0 e1 e2 e3 e4 e5 e6 e7 e8;obtain⟨s0,s1,s2,s3⟩:=zM5 X8.out;obtain⟨u0,u1,u2,u3,u4⟩:=useC S8.hu;obtain⟨uf0,uf1,uf2,uf3,uf4⟩:=useF S8.hu;go_upto_region 13 with fail
          go_region
          have S9:=(((S8.setU 3 (.int .i64 1)).setU 4 (.int .i64 (r.length:Nat))).below qH.drew).cast (U':=#[.int .i64 (file:Nat),.int .i64 pos,.string ⟨t.toArray⟩,.int .i64 1,.int .i64 (r.length:Nat)]) (by simp);generalize ((w8.setCell ⟨w.heap.size+1+1,3,none⟩ (.int .i64 1)).setCell ⟨w.heap.size+1+1,4,none⟩ (.int .i64 (r.length:Nat))).drew=w9 at S9 ⊢;clear u0 u1 u2 u3 u4 uf0 uf1 uf2 uf3 uf4 s0 s1 s2 s3;obtain⟨u0,u1,u2,u3,u4⟩:=useC S9.hu;obtain⟨r0,r1,r2,r3,r4⟩:=useC S9.hr;obtain⟨rf0,rf1,rf2,rf3,rf4⟩:=useF S9.hr;go_wp2;have hfin:=S9.fin (.int .i64 (file:Nat)) (.int .i64 pos) (.string ⟨t.toArray⟩) (.int .i64 1) (.int .i64 (r.length:Nat));generalize ((((w9.setCell ⟨w.heap.size+1,0,none⟩ (.int .i64 (file:Nat))).setCell ⟨w.heap.size+1,1,none⟩ (.int .i64 pos)).setCell ⟨w.heap.size+1,2,none⟩ (.string ⟨t.toArray⟩)).setCell ⟨w.heap.size+1,3,none⟩ (.int .i64 1)).setCell ⟨w.heap.size+1,4,none⟩ (.int .i64 (r.length:Nat))=wE at hfin ⊢;obtain⟨z0,z1,z2,z3,z4⟩:=useC hfin.2.2;exact bodyPost_ret (v:=.tuple #[.agg #[.int .i64 (file:Nat),.int .i64 pos,.string ⟨t.toArray⟩,.int .i64 1,.int .i64 (r.length:Nat)],.pointer none]) (by simp[results,Tryz.results132,go_sem,z0,z1,z2,z3,z4]) rfl ⟨by rw[HFA.out];rfl,hfin.1,by rw[HFA.out,zF6 _ _ _ _ (by decide)];exact hfin.2.1⟩
        ·have HLK:=qK (show ∀ W,Below w7.heap.size w7 W→(Instr.lookup 103 (.map (some x.bF)) (.string ⟨t.toArray⟩) false).run Tryz.prog W=.ok (.bool false) W from fun W hB=>by
          have h:=(F7.out.below hB).look Tryz.underlying103 (Tryz.zeroValue4 W) t HT.out;unfold fF at h;rw[if_neg hfi] at h;exact h)
         have HX2:=qK (show zQ0 t env=zQ0 t r from by rw[HX.out,if_neg hfi]);have HSu2:=qK (show ∀ y∈r,y∈env from fun y hy=>HSu.out y (by simp[hy]));have HLn2:=qK (show r.length=r.length∧r.length≤env.length from⟨rfl,by have:=HLn.out;simp at this;omega⟩);clear hfi;go_upto_region 12 with fail
         apply zZ3 qF [isv _,isv _,isv _,isv _,isv _,isv _,isv _,isv _] w7.heap.size w7 qJ qH.drew qF qF qF (qC (qC (qC (qC (qC (qC (qC (qC trivial)))))))) ?steps (by rfl) ?fin;case steps=>exact qA (qS 2) (qA (qQ 0 53) (qA (qQ 1 54) (qA (qQ 2 55) (qA (yO 3 56) (qA (qS 6) (qA (kP 5 58) (qA (kR 4 57 6 59) trivial)))))))
         case fin=>
          intro w8 hB
          iterate 8 refine qN ?_
          refine zW6 ?_;have S8:=S7.below hB;have X8:=qK (X7.out.keep hB);have E8:=qK (E7.out.keep (hB.mono S7.hk.size));clear hB s0 s1 s2 s3 e0 e1 e2 e3 e4 e5 e6 e7 e8;obtain⟨s0,s1,s2,s3⟩:=zM5 X8.out;go_wp2
          go_roundg r.length
          case measure=>have:=HLn.out;simp at this;omega
          case rel=>exact⟨r,E8.out,HSu2,HX2,qK ⟨rfl,by have:=HLn.out;simp at this;omega⟩,S8⟩
end Go.Proofs.YtdgehhgjgifikaaGreatDoor
